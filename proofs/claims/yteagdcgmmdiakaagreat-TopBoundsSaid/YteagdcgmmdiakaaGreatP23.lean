/-
  cond: Facts' closures.
  cond: Facts' closures, flood and area.
  cond: Ends.
  cond: Facts.
  Conditions: each theorem's own premises.
-/
import Derived.Test.YteagdcgmmdiakaaGreatP22
import Derived.Test.YteagdcgmmdiakaaGreatP21
import Derived.Test.YteagdcgmmdiakaaGreatP20
namespace Go.Proofs.YteagdcgmmdiakaaGreat
set_option linter.unusedSimpArgs false
set_option linter.unusedVariables false
open Go.RowKit
set_option maxRecDepth 100000
set_option maxHeartbeats 8000000
attribute [local go_sem] Instr.field asAgg Soft.upon Soft.upon0 Soft.stepC Soft.BW.cell_if Soft.BW.frozen_if Soft.cell_alloc_if Soft.frozen_alloc_if
attribute [local irreducible] Soft.wpSoft Soft.wpMix

/-- What Facts has laid. -/
structure FaS (z Bo : Nat) (S : Sh) (L : La) (most : Int) (W : World) (v : Value) (l : List Ft) : Prop where
  out : HasBlk W Bo #[v] 62
  own : OwnF W (Bo + 2) v l
  add : HasBlk W (Bo + 1) #[.func (.func 98) #[] #[.pointer (some ⟨Bo, 0, none⟩)]] 152
  sh : HasBlk W z #[.int .i64 (S).len, .slice ((S).dra).p ((S).dra).n ((S).dra).c, .slice ((S).hei).p ((S).hei).n ((S).hei).c, .slice ((S).cen).p ((S).cen).n ((S).cen).c, .slice ((S).tri).p ((S).tri).n ((S).tri).c, .slice ((S).flo).p ((S).flo).n ((S).flo).c, .slice ((S).cross).p ((S).cross).n ((S).cross).c, .slice ((S).sin).p ((S).sin).n ((S).sin).c, .slice ((S).shi).p ((S).shi).n ((S).shi).c, .int .i64 (((S).light).mass).lo, .int .i64 (((S).light).mass).hi, .int .i64 (((S).light).along).lo, .int .i64 (((S).light).along).hi, .int .i64 (((S).light).high).lo, .int .i64 (((S).light).high).hi] 31
  ld : HasBlk W (z + 1) #[.slice ((L).ws).p ((L).ws).n ((L).ws).c, .int .i64 ((L).sur).lo, .int .i64 ((L).sur).hi, .int .i64 ((L).shi).lo, .int .i64 ((L).shi).hi] 58
  mo : HasBlk W (z + 2) #[.int .i64 most] 3
  lo : z + 3 ≤ Bo
  hi : Bo + 2 ≤ W.heap.size
theorem FaS.same {z Bo : Nat} {S : Sh} {L : La} {most : Int} {W W' : World} {v : Value} {l : List Ft} (h : FaS z Bo S L most W v l) (hb : Below W.heap.size W W') : FaS z Bo S L most W' v l :=
  ⟨h.out.below hb, h.own.same hb, h.add.below hb, h.sh.below hb, h.ld.below hb, h.mo.below hb, h.lo, Nat.le_trans h.hi hb.size⟩
/-- All but the facts' own blocks lies as it lay. -/
structure KeepF (Bo : Nat) (v : Value) (w w' : World) : Prop where
  os : w'.os = w.os
  tape : w'.tape = w.tape
  output : w'.output = w.output
  size : w.heap.size ≤ w'.heap.size
  block : ∀ k, k < w.heap.size → k ≠ Bo → v.ownBlock ≠ some k → w'.heap[k]? = w.heap[k]?
theorem KeepF.below {z Bo : Nat} {S : Sh} {L : La} {most : Int} {w w' : World} {v : Value} {l : List Ft} (h : KeepF Bo v w w') (hf : FaS z Bo S L most w v l) {B : Nat} (hB : B ≤ Bo) : Below B w w' :=
  ⟨h.os, h.tape, h.output, h.size, fun k hk => h.block k (by have := hf.hi; omega) (by omega) (fun e => by have := (World.ownsRow.lt hf.own k e).1; omega)⟩

theorem KeepF.pre {Bo : Nat} {v : Value} {w w1 w2 : World} (hb : Below w.heap.size w w1) (h : KeepF Bo v w1 w2) : KeepF Bo v w w2 :=
  ⟨h.os.trans hb.os, h.tape.trans hb.tape, h.output.trans hb.output, Nat.le_trans hb.size h.size, fun k hk a b => (h.block k (Nat.lt_of_lt_of_le hk hb.size) a b).trans (hb.block k hk)⟩

theorem facts_add (z Bo : Nat) (S : Sh) (L : La) (most : Int) (W : World) (v : Value) (l : List Ft) (h : FaS z Bo S L most W v l) (h90 : l.length ≤ 90) (nm : ByteArray) (E : Rg × Int) :
    Calls Tryz.prog 98 #[.string nm, .agg #[.int .i64 (E.1).lo, .int .i64 (E.1).hi], .int .i64 E.2, .pointer (some ⟨Bo, 0, none⟩)] W fun e W' => e = .returned (.tuple #[]) ∧ ∃ v', FaS z Bo S L most W' v' (l ++ fctE nm E) ∧ KeepF Bo v W W' := by
  obtain ⟨⟨el, eh⟩, er⟩ := E
  dsimp only
  have H := Lib.hid h
  have c0 := h.out.cell 0
  have f0 := h.out.frozen 0
  simp at c0
  have l0 := Soft.LtH.mk (b := Bo) (w := W) h.out.lt
  have hW2 := h.hi
  clear h
  by_cases he : er = 0
  · subst he
    go_enter Tryz.func98, Tryz.ntmps98
    go_wp2_with (at_builtin; go_loud (refine app_ft rfl (.tmp 9) (.tmp 13) rfl (Bo + 2) v l rfl (H.out.own.same (show Below W.heap.size W ((W.alloc (.cells #[.int .i64 el, .int .i64 eh] 27)).alloc (.cells #[.string nm, .int .i64 el, .int .i64 eh] 114)) by (with_reducible repeat (first | exact blr _ | refine bla ?_ _ | refine blw _ ?_ | refine bld ?_ | refine bln _ ?_ | refine bls ?_ _ | refine blt ?_)))) (W.heap.size + 1) ⟨nm, ⟨el, eh⟩⟩ rfl (by simp) (by simp) (by simp) (by omega) (by simp; omega) ?_); intro v3 w3 ho hb3 hgr3; have fs3 := HasBlk.belowAt (HasBlk.below H.out.out (show Below W.heap.size W ((W.alloc (.cells #[.int .i64 el, .int .i64 eh] 27)).alloc (.cells #[.string nm, .int .i64 el, .int .i64 eh] 114)) by (with_reducible repeat (first | exact blr _ | refine bla ?_ _ | refine blw _ ?_ | refine bld ?_ | refine bln _ ?_ | refine bls ?_ _ | refine blt ?_)))) hb3 (by omega); have fs4 := fs3.frozen 0; have fs5 := fs3.cell 0; simp at fs5; obtain ⟨g3, c3, rfl, hg5, hg6, hg7, hg8⟩ := ho.shape (by simp))
    go_end0
    have hW : Below W.heap.size W ((W.alloc (.cells #[.int .i64 el, .int .i64 eh] 27)).alloc (.cells #[.string nm, .int .i64 el, .int .i64 eh] 114)) := by (with_reducible repeat (first | exact blr _ | refine bla ?_ _ | refine blw _ ?_ | refine bld ?_ | refine bln _ ?_ | refine bls ?_ _ | refine blt ?_))
    have hsz := hb3.size
    have hZ := H.out.lo
    rw [show (l ++ [({ nm := nm, val := { lo := el, hi := eh } } : Ft)]).length = l.length + 1 by simp] at ho
    refine ⟨rfl, _, ⟨fs3.put 0 _, ?_, (HasBlk.belowAt (H.out.add.below hW) hb3 (by omega)).set_other (by dsimp only; omega) _, (HasBlk.belowAt (H.out.sh.below hW) hb3 (by omega)).set_other (by dsimp only; omega) _, (HasBlk.belowAt (H.out.ld.below hW) hb3 (by omega)).set_other (by dsimp only; omega) _, (HasBlk.belowAt (H.out.mo.below hW) hb3 (by omega)).set_other (by dsimp only; omega) _, hZ, by simp at hsz ⊢; omega⟩, ?_⟩
    · exact ho.set (p := ⟨Bo, 0, none⟩) (by dsimp only; omega) _
    · refine ⟨hb3.os.trans hW.os, hb3.tape.trans hW.tape, hb3.output.trans hW.output, by simp at hsz ⊢; omega, fun k hk hk1 hk2 => ?_⟩
      exact (Below.heap_setCell w3 ⟨Bo, 0, none⟩ _ k hk1).trans ((hgr3.block k (by simp; omega) (fun e => hk2 e.symm)).trans (hW.block k hk))
  · have dE : (er == 0) = false := beq_eq_false_iff_ne.2 he
    have HF := Lib.hid (show fctE nm (⟨el, eh⟩, er) = [] from if_neg he)
    go_enter Tryz.func98, Tryz.ntmps98
    go_wp2_with fail
    go_end0
    have hW : Below W.heap.size W (W.alloc (.cells #[.int .i64 el, .int .i64 eh] 27)) := by (with_reducible repeat (first | exact blr _ | refine bla ?_ _ | refine blw _ ?_ | refine bld ?_ | refine bln _ ?_ | refine bls ?_ _ | refine blt ?_))
    refine ⟨rfl, v, ?_, hW.os, hW.tape, hW.output, hW.size, fun k hk _ _ => hW.block k hk⟩
    rw [HF.out, List.append_nil]
    exact H.out.same hW

theorem facts_told2 (f : FuncId)  (hcf : ∀ args W, Sem.run Tryz.prog (callFunc f args) W = .ok (.enter f args) W) (z Bo : Nat) (S : Sh) (L : La) (most : Int) (W : World) (v : Value) (l : List Ft) (h : FaS z Bo S L most W v l) (h90 : l.length ≤ 90) (nm : ByteArray) (E : Rg × Int)
    (hf : ∀ W', Below W.heap.size W W' → Calls Tryz.prog f #[.agg #[.int .i64 (S).len, .slice ((S).dra).p ((S).dra).n ((S).dra).c, .slice ((S).hei).p ((S).hei).n ((S).hei).c, .slice ((S).cen).p ((S).cen).n ((S).cen).c, .slice ((S).tri).p ((S).tri).n ((S).tri).c, .slice ((S).flo).p ((S).flo).n ((S).flo).c, .slice ((S).cross).p ((S).cross).n ((S).cross).c, .slice ((S).sin).p ((S).sin).n ((S).sin).c, .slice ((S).shi).p ((S).shi).n ((S).shi).c, .int .i64 (((S).light).mass).lo, .int .i64 (((S).light).mass).hi, .int .i64 (((S).light).along).lo, .int .i64 (((S).light).along).hi, .int .i64 (((S).light).high).lo, .int .i64 (((S).light).high).hi], .agg #[.slice ((L).ws).p ((L).ws).n ((L).ws).c, .int .i64 ((L).sur).lo, .int .i64 ((L).sur).hi, .int .i64 ((L).shi).lo, .int .i64 ((L).shi).hi]] W' fun e w' => e = .returned (.tuple #[.agg #[.int .i64 (E.1).lo, .int .i64 (E.1).hi], .int .i64 E.2]) ∧ Below W'.heap.size W' w') :
    Calls Tryz.prog 99 #[.string nm, .func (.func f) #[] #[], .pointer (some ⟨z, 0, none⟩), .pointer (some ⟨z + 1, 0, none⟩), .pointer (some ⟨Bo + 1, 0, none⟩)] W fun e W' => e = .returned (.tuple #[]) ∧ ∃ v', FaS z Bo S L most W' v' (l ++ fctE nm E) ∧ KeepF Bo v W W' := by
  have CF := Lib.hid hf
  have CA := Lib.hid (fun W' (hb : Below W.heap.size W W') => facts_add z Bo S L most W' v l (h.same hb) h90 nm E)
  clear hf
  obtain ⟨⟨el, eh⟩, er⟩ := E
  dsimp only at CF CA
  have H := Lib.hid h
  have hs := h.sh
  have hl := h.ld
  have ha := h.add.cell 0
  have ls := Soft.LtH.mk (b := z) (w := W) h.sh.lt
  have ll := Soft.LtH.mk (b := z + 1) (w := W) h.ld.lt
  have la := Soft.LtH.mk (b := Bo + 1) (w := W) h.add.lt
  simp at ha
  clear h
  obtain ⟨v0, v1, v2, v3, v4, v5, v6, v7, v8, v9, v10, v11, v12, v13, v14, HS0, E1, E2, E3, E4, E5, E6, E7, E8, E9⟩ := ship_letters S
  obtain ⟨x0, x1, x2, x3, x4, HL0, F0, F1, F2⟩ := load_letters L
  rw [HS0.out, HL0.out] at CF
  rw [HS0.out] at hs
  rw [HL0.out] at hl
  have s0 := hs.cell 0
  have s1 := hs.cell 1
  have s2 := hs.cell 2
  have s3 := hs.cell 3
  have s4 := hs.cell 4
  have s5 := hs.cell 5
  have s6 := hs.cell 6
  have s7 := hs.cell 7
  have s8 := hs.cell 8
  have s9 := hs.cell 9
  have s10 := hs.cell 10
  have s11 := hs.cell 11
  have s12 := hs.cell 12
  have s13 := hs.cell 13
  have s14 := hs.cell 14
  have l0 := hl.cell 0
  have l1 := hl.cell 1
  have l2 := hl.cell 2
  have l3 := hl.cell 3
  have l4 := hl.cell 4
  simp at s0 s1 s2 s3 s4 s5 s6 s7 s8 s9 s10 s11 s12 s13 s14 l0 l1 l2 l3 l4
  clear hs hl
  go_enter Tryz.func99, Tryz.ntmps99
  go_wp2_with (first | ((with_reducible refine (CF.out _ (by (with_reducible repeat (first | exact blr _ | refine bla ?_ _ | refine blw _ ?_ | refine bld ?_ | refine bln _ ?_ | refine bls ?_ _ | refine blt ?_)))).mono ?_); rintro e w_ ⟨rfl, hb_⟩; obtain ⟨y1, rfl⟩ := Soft.BW.mk hb_; clear hb_) | (go_at_call 98; refine (CA.out _ (by (with_reducible repeat (first | exact blr _ | refine bla ?_ _ | refine blw _ ?_ | refine bld ?_ | refine bln _ ?_ | refine bls ?_ _ | refine blt ?_)))).mono ?_; rintro e w5 ⟨rfl, v', hfa, hk⟩))
  go_end0
  have hW : Below W.heap.size W (y1.w.alloc (.cells #[.int .i64 el, .int .i64 eh] 27)) := by (with_reducible repeat (first | exact blr _ | refine bla ?_ _ | refine blw _ ?_ | refine bld ?_ | refine bln _ ?_ | refine bls ?_ _ | refine blt ?_))
  exact ⟨rfl, v', hfa, KeepF.pre hW hk⟩
theorem facts_told3 (f : FuncId) (Bm : Nat) (hcf : ∀ args W, Sem.run Tryz.prog (callFunc f args) W = .ok (.enter f args) W) (z Bo : Nat) (S : Sh) (L : La) (most : Int) (W : World) (v : Value) (l : List Ft) (h : FaS z Bo S L most W v l) (h90 : l.length ≤ 90) (nm : ByteArray) (E : Rg × Int)
    (hf : ∀ W', Below W.heap.size W W' → Calls Tryz.prog f #[.agg #[.int .i64 (S).len, .slice ((S).dra).p ((S).dra).n ((S).dra).c, .slice ((S).hei).p ((S).hei).n ((S).hei).c, .slice ((S).cen).p ((S).cen).n ((S).cen).c, .slice ((S).tri).p ((S).tri).n ((S).tri).c, .slice ((S).flo).p ((S).flo).n ((S).flo).c, .slice ((S).cross).p ((S).cross).n ((S).cross).c, .slice ((S).sin).p ((S).sin).n ((S).sin).c, .slice ((S).shi).p ((S).shi).n ((S).shi).c, .int .i64 (((S).light).mass).lo, .int .i64 (((S).light).mass).hi, .int .i64 (((S).light).along).lo, .int .i64 (((S).light).along).hi, .int .i64 (((S).light).high).lo, .int .i64 (((S).light).high).hi], .agg #[.slice ((L).ws).p ((L).ws).n ((L).ws).c, .int .i64 ((L).sur).lo, .int .i64 ((L).sur).hi, .int .i64 ((L).shi).lo, .int .i64 ((L).shi).hi], .pointer (some ⟨Bm, 0, none⟩)] W' fun e w' => e = .returned (.tuple #[.agg #[.int .i64 (E.1).lo, .int .i64 (E.1).hi], .int .i64 E.2]) ∧ Below W'.heap.size W' w') :
    Calls Tryz.prog 99 #[.string nm, .func (.func f) #[] #[.pointer (some ⟨Bm, 0, none⟩)], .pointer (some ⟨z, 0, none⟩), .pointer (some ⟨z + 1, 0, none⟩), .pointer (some ⟨Bo + 1, 0, none⟩)] W fun e W' => e = .returned (.tuple #[]) ∧ ∃ v', FaS z Bo S L most W' v' (l ++ fctE nm E) ∧ KeepF Bo v W W' := by
  have CF := Lib.hid hf
  have CA := Lib.hid (fun W' (hb : Below W.heap.size W W') => facts_add z Bo S L most W' v l (h.same hb) h90 nm E)
  clear hf
  obtain ⟨⟨el, eh⟩, er⟩ := E
  dsimp only at CF CA
  have H := Lib.hid h
  have hs := h.sh
  have hl := h.ld
  have ha := h.add.cell 0
  have ls := Soft.LtH.mk (b := z) (w := W) h.sh.lt
  have ll := Soft.LtH.mk (b := z + 1) (w := W) h.ld.lt
  have la := Soft.LtH.mk (b := Bo + 1) (w := W) h.add.lt
  simp at ha
  clear h
  obtain ⟨v0, v1, v2, v3, v4, v5, v6, v7, v8, v9, v10, v11, v12, v13, v14, HS0, E1, E2, E3, E4, E5, E6, E7, E8, E9⟩ := ship_letters S
  obtain ⟨x0, x1, x2, x3, x4, HL0, F0, F1, F2⟩ := load_letters L
  rw [HS0.out, HL0.out] at CF
  rw [HS0.out] at hs
  rw [HL0.out] at hl
  have s0 := hs.cell 0
  have s1 := hs.cell 1
  have s2 := hs.cell 2
  have s3 := hs.cell 3
  have s4 := hs.cell 4
  have s5 := hs.cell 5
  have s6 := hs.cell 6
  have s7 := hs.cell 7
  have s8 := hs.cell 8
  have s9 := hs.cell 9
  have s10 := hs.cell 10
  have s11 := hs.cell 11
  have s12 := hs.cell 12
  have s13 := hs.cell 13
  have s14 := hs.cell 14
  have l0 := hl.cell 0
  have l1 := hl.cell 1
  have l2 := hl.cell 2
  have l3 := hl.cell 3
  have l4 := hl.cell 4
  simp at s0 s1 s2 s3 s4 s5 s6 s7 s8 s9 s10 s11 s12 s13 s14 l0 l1 l2 l3 l4
  clear hs hl
  go_enter Tryz.func99, Tryz.ntmps99
  go_wp2_with (first | ((with_reducible refine (CF.out _ (by (with_reducible repeat (first | exact blr _ | refine bla ?_ _ | refine blw _ ?_ | refine bld ?_ | refine bln _ ?_ | refine bls ?_ _ | refine blt ?_)))).mono ?_); rintro e w_ ⟨rfl, hb_⟩; obtain ⟨y1, rfl⟩ := Soft.BW.mk hb_; clear hb_) | (go_at_call 98; refine (CA.out _ (by (with_reducible repeat (first | exact blr _ | refine bla ?_ _ | refine blw _ ?_ | refine bld ?_ | refine bln _ ?_ | refine bls ?_ _ | refine blt ?_)))).mono ?_; rintro e w5 ⟨rfl, v', hfa, hk⟩))
  go_end0
  have hW : Below W.heap.size W (y1.w.alloc (.cells #[.int .i64 el, .int .i64 eh] 27)) := by (with_reducible repeat (first | exact blr _ | refine bla ?_ _ | refine blw _ ?_ | refine bld ?_ | refine bln _ ?_ | refine bls ?_ _ | refine blt ?_))
  exact ⟨rfl, v', hfa, KeepF.pre hW hk⟩

end Go.Proofs.YteagdcgmmdiakaaGreat

namespace Go.Proofs.YteagdcgmmdiakaaGreat
set_option linter.unusedSimpArgs false
set_option linter.unusedVariables false
open Go.RowKit
set_option maxRecDepth 100000
set_option maxHeartbeats 8000000
attribute [local go_sem] Instr.field asAgg Soft.upon Soft.upon0 Soft.stepC Soft.BW.cell_if Soft.BW.frozen_if Soft.cell_alloc_if Soft.frozen_alloc_if
attribute [local irreducible] Soft.wpSoft Soft.wpMix

theorem facts_flood (S : Sh) (L : La) (V : Wt) (w : World) (h : Afl S L V w) :
    Calls Tryz.prog 106 #[.agg #[.int .i64 (S).len, .slice ((S).dra).p ((S).dra).n ((S).dra).c, .slice ((S).hei).p ((S).hei).n ((S).hei).c, .slice ((S).cen).p ((S).cen).n ((S).cen).c, .slice ((S).tri).p ((S).tri).n ((S).tri).c, .slice ((S).flo).p ((S).flo).n ((S).flo).c, .slice ((S).cross).p ((S).cross).n ((S).cross).c, .slice ((S).sin).p ((S).sin).n ((S).sin).c, .slice ((S).shi).p ((S).shi).n ((S).shi).c, .int .i64 (((S).light).mass).lo, .int .i64 (((S).light).mass).hi, .int .i64 (((S).light).along).lo, .int .i64 (((S).light).along).hi, .int .i64 (((S).light).high).lo, .int .i64 (((S).light).high).hi], .agg #[.slice ((L).ws).p ((L).ws).n ((L).ws).c, .int .i64 ((L).sur).lo, .int .i64 ((L).sur).hi, .int .i64 ((L).shi).lo, .int .i64 ((L).shi).hi]] w fun e w' => e = .returned (.tuple #[.agg #[.int .i64 ((overE S.flo.ps (tonR V)).1).lo, .int .i64 ((overE S.flo.ps (tonR V)).1).hi], .int .i64 (overE S.flo.ps (tonR V)).2]) ∧ Below w.heap.size w w' := by
  have CT := Lib.hid (fun W (hb : Below w.heap.size w W) => cond_tonnes S L V W (h.l.same hb) h.li h.v)
  have CO := Lib.hid (fun W (hb : Below w.heap.size w W) => cond_over S.flo (tonR V) W (h.s.flo.same hb))
  clear h
  generalize overE S.flo.ps (tonR V) = E at *
  obtain ⟨⟨el, eh⟩, er⟩ := E
  dsimp only at CO
  generalize tonR V = r at *
  obtain ⟨v0, v1, v2, v3, v4, v5, v6, v7, v8, v9, v10, v11, v12, v13, v14, HS0, E1, E2, E3, E4, E5, E6, E7, E8, E9⟩ := ship_letters S
  rw [HS0.out] at CT ⊢
  rw [E5.out] at CO
  generalize Value.slice L.ws.p L.ws.n L.ws.c = x0 at CT ⊢
  go_enter Tryz.func106, Tryz.ntmps106
  go_wp2_with fail
  ((refine Soft.region_mix [(true, 0), (true, 1), (true, 2), (true, 3), (false, 4), (false, 5), (true, 6), (true, 7)] [8, 9] (by kernel_rfl) (by kernel_rfl) (by kernel_rfl) (by kernel_rfl) ?_; change Soft.wpMix _ _ _ _ [(true, _), (true, _), (true, _), (true, _), (false, _), (false, _), (true, _), (true, _)] _ _); (refine Soft.mix_q (fun K hK => ?_); go_simp; (try go_bits); first | (refine hK _ ?_; clear hK K) | (apply Exists.intro; refine ⟨fun x => ?_, hK _ ?_⟩; fail)); (refine Soft.mix_q (fun K hK => ?_); go_simp; (try go_bits); first | (refine hK _ ?_; clear hK K) | (apply Exists.intro; refine ⟨fun x => ?_, hK _ ?_⟩; fail)); (refine Soft.mix_q (fun K hK => ?_); go_simp; (try go_bits); first | (refine hK _ ?_; clear hK K) | (apply Exists.intro; refine ⟨fun x => ?_, hK _ ?_⟩; fail)); (refine Soft.mix_q (fun K hK => ?_); go_simp; (try go_bits); first | (refine hK _ ?_; clear hK K) | (apply Exists.intro; refine ⟨fun x => ?_, hK _ ?_⟩; fail)); (refine Soft.mix_c (fun K hK => ?_); go_simp; (try go_bits); ((go_at_call 108; (with_reducible refine (CT.out _ (by (with_reducible repeat (first | exact blr _ | refine bla ?_ _ | refine blw _ ?_ | refine bld ?_ | refine bln _ ?_ | refine bls ?_ _ | refine blt ?_)))).mono ?_); rintro e w_ ⟨rfl, hb_⟩; obtain ⟨y2, rfl⟩ := Soft.BW.mk hb_; clear hb_; refine ⟨_, rfl, (by first | with_reducible exact Soft.BW.below y2 | simpa using Soft.BW.below y2), hK _ _ ?_⟩)); clear hK K); (refine Soft.mix_c (fun K hK => ?_); go_simp; (try go_bits); ((go_at_call 107; (with_reducible refine (CO.out _ (by (with_reducible repeat (first | exact blr _ | refine bla ?_ _ | refine blw _ ?_ | refine bld ?_ | refine bln _ ?_ | refine bls ?_ _ | refine blt ?_)))).mono ?_); rintro e w_ ⟨rfl, hb_⟩; obtain ⟨y3, rfl⟩ := Soft.BW.mk hb_; clear hb_; refine ⟨_, rfl, (by first | with_reducible exact Soft.BW.below y3 | simpa using Soft.BW.below y3), hK _ _ ?_⟩)); clear hK K); (refine Soft.mix_q (fun K hK => ?_); go_simp; (try go_bits); first | (refine hK _ ?_; clear hK K) | (apply Exists.intro; refine ⟨fun x => ?_, hK _ ?_⟩; fail)); (refine Soft.mix_q (fun K hK => ?_); go_simp; (try go_bits); first | (refine hK _ ?_; clear hK K) | (apply Exists.intro; refine ⟨fun x => ?_, hK _ ?_⟩; fail)); (refine Soft.mix_nil ?_; intro hbx; change wpList _ _ _ [_, _] _ _))
  go_wp2_with fail
  refine bodyPost_ret (v := .tuple #[.agg #[.int .i64 el, .int .i64 eh], .int .i64 er]) (by simp [results, Tryz.results106, go_sem]) rfl ?_
  refine ⟨rfl, ?_⟩
  (with_reducible repeat (first | exact blr _ | refine bla ?_ _ | refine blw _ ?_ | refine bld ?_ | refine bln _ ?_ | refine bls ?_ _ | refine blt ?_))

theorem facts_area (S : Sh) (L : La) (V : Wt) (most : Int) (w : World) (h : Afl S L V w) (Bm : Nat) (hm : HasBlk w Bm #[.int .i64 most] 3) :
    Calls Tryz.prog 109 #[.agg #[.int .i64 (S).len, .slice ((S).dra).p ((S).dra).n ((S).dra).c, .slice ((S).hei).p ((S).hei).n ((S).hei).c, .slice ((S).cen).p ((S).cen).n ((S).cen).c, .slice ((S).tri).p ((S).tri).n ((S).tri).c, .slice ((S).flo).p ((S).flo).n ((S).flo).c, .slice ((S).cross).p ((S).cross).n ((S).cross).c, .slice ((S).sin).p ((S).sin).n ((S).sin).c, .slice ((S).shi).p ((S).shi).n ((S).shi).c, .int .i64 (((S).light).mass).lo, .int .i64 (((S).light).mass).hi, .int .i64 (((S).light).along).lo, .int .i64 (((S).light).along).hi, .int .i64 (((S).light).high).lo, .int .i64 (((S).light).high).hi], .agg #[.slice ((L).ws).p ((L).ws).n ((L).ws).c, .int .i64 ((L).sur).lo, .int .i64 ((L).sur).hi, .int .i64 ((L).shi).lo, .int .i64 ((L).shi).hi], .pointer (some ⟨Bm, 0, none⟩)] w fun e w' => e = .returned (.tuple #[.agg #[.int .i64 ((aeE S L V most).1).lo, .int .i64 ((aeE S L V most).1).hi], .int .i64 (aeE S L V most).2]) ∧ Below w.heap.size w w' := by
  have CA := Lib.hid (fun W (hb : Below w.heap.size w W) => cond_area S L V most W (h.same hb))
  have m0 := hm.cell 0
  simp at m0
  have lm := Soft.LtH.mk (b := Bm) (w := w) hm.lt
  clear h hm
  generalize aeE S L V most = E at *
  obtain ⟨⟨el, eh⟩, er⟩ := E
  dsimp only at CA
  obtain ⟨v0, v1, v2, v3, v4, v5, v6, v7, v8, v9, v10, v11, v12, v13, v14, HS0, E1, E2, E3, E4, E5, E6, E7, E8, E9⟩ := ship_letters S
  obtain ⟨x0, x1, x2, x3, x4, HL0, F0, F1, F2⟩ := load_letters L
  rw [HS0.out, HL0.out] at CA ⊢
  go_enter Tryz.func109, Tryz.ntmps109
  go_wp2_with ((go_at_call 110; (with_reducible refine (CA.out _ (by (with_reducible repeat (first | exact blr _ | refine bla ?_ _ | refine blw _ ?_ | refine bld ?_ | refine bln _ ?_ | refine bls ?_ _ | refine blt ?_)))).mono ?_); rintro e w_ ⟨rfl, hb_⟩; obtain ⟨y1, rfl⟩ := Soft.BW.mk hb_; clear hb_))
  refine bodyPost_ret (v := .tuple #[.agg #[.int .i64 el, .int .i64 eh], .int .i64 er]) (by simp [results, Tryz.results109, go_sem]) rfl ?_
  refine ⟨rfl, ?_⟩
  (with_reducible repeat (first | exact blr _ | refine bla ?_ _ | refine blw _ ?_ | refine bld ?_ | refine bln _ ?_ | refine bls ?_ _ | refine blt ?_))

end Go.Proofs.YteagdcgmmdiakaaGreat

namespace Go.Proofs.YteagdcgmmdiakaaGreat
set_option linter.unusedSimpArgs false
set_option linter.unusedVariables false
open Go.RowKit
set_option maxRecDepth 100000
set_option maxHeartbeats 4000000
attribute [local go_sem] Instr.field asAgg Soft.upon Soft.upon0 Soft.stepC Soft.BW.cell_if Soft.BW.frozen_if Soft.cell_alloc_if Soft.frozen_alloc_if
attribute [local irreducible] Soft.wpSoft Soft.wpMix

/-- The drafts at the ends. -/
def halfR (t : Rg) : Rg := quoR t ⟨2, 2⟩
def endE (S : Sh) (L : La) (V : Wt) : (Rg × Rg) × Int :=
  if (overE S.dra.ps (tonR V)).2 = 0 then if (triE S L V).2 = 0 then ((addR (overE S.dra.ps (tonR V)).1 (halfR (triE S L V).1), subR (overE S.dra.ps (tonR V)).1 (halfR (triE S L V).1)), 0) else ((⟨0, 0⟩, ⟨0, 0⟩), (triE S L V).2)
  else ((⟨0, 0⟩, ⟨0, 0⟩), (overE S.dra.ps (tonR V)).2)

theorem triE_bd {S : Sh} {L : La} {V : Wt} (ok : ShipOk S) (hv : TotIs (allW S L) V) (h0 : (triE S L V).2 = 0) : -82000000000000000 ≤ (triE S L V).1.lo ∧ (triE S L V).1.lo ≤ (triE S L V).1.hi ∧ (triE S L V).1.hi ≤ 82000000000000000 := by
  unfold triE at h0 ⊢
  by_cases c1 : (overE S.cen.ps (tonR V)).2 = 0
  · rw [if_pos c1] at h0 ⊢
    by_cases c2 : (overE S.tri.ps (tonR V)).2 = 0
    · rw [if_pos c2]
      obtain ⟨b1, b2, b3⟩ := overE_bd ok.cen _ c1
      obtain ⟨t1, t2, t3⟩ := overE_bd ok.tri _ c2
      obtain ⟨m1, m2, m3⟩ := mass_in hv
      obtain ⟨g1, g2, g3⟩ := along_in hv
      have s1 : -2000000 ≤ (subR V.along (overE S.cen.ps (tonR V)).1).lo ∧ (subR V.along (overE S.cen.ps (tonR V)).1).lo ≤ (subR V.along (overE S.cen.ps (tonR V)).1).hi ∧ (subR V.along (overE S.cen.ps (tonR V)).1).hi ≤ 2000000 := by unfold subR; dsimp only; omega
      have p1 := prodR_bd (a := V.mass) (b := subR V.along (overE S.cen.ps (tonR V)).1) (A := 41000000000) (B := 2000000) (by omega) m2 m3 s1.1 s1.2.1 s1.2.2
      have p2 := prodR_le V.mass (subR V.along (overE S.cen.ps (tonR V)).1)
      have u1 : 1 ≤ (thou (overE S.tri.ps (tonR V)).1).lo ∧ 1 ≤ (thou (overE S.tri.ps (tonR V)).1).hi := by unfold thou; dsimp only; omega
      have q1 := quoR_bd (b := thou (overE S.tri.ps (tonR V)).1) (K := 82000000000000000) (by decide) (by omega) p2 (by omega) u1.1 u1.2
      have q2 := quoR_le (b := thou (overE S.tri.ps (tonR V)).1) p2 u1.1
      exact ⟨q1.1, q2, q1.2⟩
    · rw [if_neg c2] at h0; exact absurd h0 c2
  · rw [if_neg c1] at h0; exact absurd h0 c1

theorem cond_Ends (S : Sh) (L : La) (V : Wt) (w : World) (h : Afl S L V w) :
    Calls Tryz.prog 103 #[.agg #[.int .i64 (S).len, .slice ((S).dra).p ((S).dra).n ((S).dra).c, .slice ((S).hei).p ((S).hei).n ((S).hei).c, .slice ((S).cen).p ((S).cen).n ((S).cen).c, .slice ((S).tri).p ((S).tri).n ((S).tri).c, .slice ((S).flo).p ((S).flo).n ((S).flo).c, .slice ((S).cross).p ((S).cross).n ((S).cross).c, .slice ((S).sin).p ((S).sin).n ((S).sin).c, .slice ((S).shi).p ((S).shi).n ((S).shi).c, .int .i64 (((S).light).mass).lo, .int .i64 (((S).light).mass).hi, .int .i64 (((S).light).along).lo, .int .i64 (((S).light).along).hi, .int .i64 (((S).light).high).lo, .int .i64 (((S).light).high).hi], .agg #[.slice ((L).ws).p ((L).ws).n ((L).ws).c, .int .i64 ((L).sur).lo, .int .i64 ((L).sur).hi, .int .i64 ((L).shi).lo, .int .i64 ((L).shi).hi]] w fun e w' => e = .returned (.tuple #[.agg #[.int .i64 ((endE S L V).1.1).lo, .int .i64 ((endE S L V).1.1).hi], .agg #[.int .i64 ((endE S L V).1.2).lo, .int .i64 ((endE S L V).1.2).hi], .int .i64 (endE S L V).2]) ∧ Below w.heap.size w w' := by
  have CD := Lib.hid (fun W (hb : Below w.heap.size w W) => cond_Draft S L V W (h.same hb))
  have CT := Lib.hid (fun W (hb : Below w.heap.size w W) => cond_Trim S L V W (h.same hb))
  have HE := Lib.hid (show endE S L V = if (overE S.dra.ps (tonR V)).2 = 0 then if (triE S L V).2 = 0 then ((addR (overE S.dra.ps (tonR V)).1 (halfR (triE S L V).1), subR (overE S.dra.ps (tonR V)).1 (halfR (triE S L V).1)), 0) else ((⟨0, 0⟩, ⟨0, 0⟩), (triE S L V).2) else ((⟨0, 0⟩, ⟨0, 0⟩), (overE S.dra.ps (tonR V)).2) from rfl)
  have HD := Lib.hid (fun h0 => overE_bd h.ok.dra (tonR V) h0)
  have HT := Lib.hid (triE_bd (L := L) h.ok h.v)
  clear h
  obtain ⟨v0, v1, v2, v3, v4, v5, v6, v7, v8, v9, v10, v11, v12, v13, v14, HS0, E1, E2, E3, E4, E5, E6, E7, E8, E9⟩ := ship_letters S
  obtain ⟨x0, x1, x2, x3, x4, HL0, F0, F1, F2⟩ := load_letters L
  rw [HS0.out, HL0.out] at CD CT ⊢
  generalize overE S.dra.ps (tonR V) = D at *
  generalize triE S L V = T at *
  obtain ⟨⟨dl, dh⟩, dr⟩ := D
  obtain ⟨⟨tl, th⟩, tr⟩ := T
  dsimp only at CD CT HE HD HT
  by_cases h0 : dr = 0
  · subst h0
    obtain ⟨d1, d2, d3⟩ := HD.out rfl
    by_cases h1 : tr = 0
    · subst h1
      rw [HE.out, if_pos rfl, if_pos rfl]
      obtain ⟨t1, t2, t3⟩ := HT.out rfl
      have q1 := quoR_bd (a := ⟨tl, th⟩) (b := ⟨2, 2⟩) (K := 82000000000000000) (by decide) t1 t2 t3 (by decide) (by decide)
      have q2 := quoR_le (a := ⟨tl, th⟩) (b := ⟨2, 2⟩) t2 (by decide)
      have CQ := Lib.hid (fun W => show Calls Tryz.prog 116 #[.agg #[.int .i64 tl, .int .i64 th], .agg #[.int .i64 2, .int .i64 2]] W (fun e w' => e = .returned (.agg #[.int .i64 ((halfR ⟨tl, th⟩)).lo, .int .i64 ((halfR ⟨tl, th⟩)).hi]) ∧ Below W.heap.size W w') from cond_quotient ⟨tl, th⟩ ⟨2, 2⟩ W (by unfold MidR; dsimp only; omega) (by decide))
      change -82000000000000000 ≤ (halfR ⟨tl, th⟩).lo ∧ (halfR ⟨tl, th⟩).hi ≤ 82000000000000000 at q1
      change (halfR ⟨tl, th⟩).lo ≤ (halfR ⟨tl, th⟩).hi at q2
      generalize halfR ⟨tl, th⟩ = hf at *
      have CP := Lib.hid (fun W => show Calls Tryz.prog 61 #[.agg #[.int .i64 dl, .int .i64 dh], .agg #[.int .i64 (hf).lo, .int .i64 (hf).hi]] W (fun e w' => e = .returned (.agg #[.int .i64 ((addR ⟨dl, dh⟩ hf)).lo, .int .i64 ((addR ⟨dl, dh⟩ hf)).hi]) ∧ Below W.heap.size W w') from cond_plus ⟨dl, dh⟩ hf W (by dsimp only; omega) (by dsimp only; omega) ⟨by omega, by omega⟩ ⟨by omega, by omega⟩)
      have CM := Lib.hid (fun W => show Calls Tryz.prog 50 #[.agg #[.int .i64 dl, .int .i64 dh], .agg #[.int .i64 (hf).lo, .int .i64 (hf).hi]] W (fun e w' => e = .returned (.agg #[.int .i64 ((subR ⟨dl, dh⟩ hf)).lo, .int .i64 ((subR ⟨dl, dh⟩ hf)).hi]) ∧ Below W.heap.size W w') from cond_minus ⟨dl, dh⟩ hf W (by dsimp only; omega) (by dsimp only; omega) ⟨by omega, by omega⟩ ⟨by omega, by omega⟩)
      clear HE HD HT t1 t2 t3 q1 q2 d1 d2 d3
      generalize addR ⟨dl, dh⟩ hf = pl at *
      generalize subR ⟨dl, dh⟩ hf = mi at *
      go_enter Tryz.func103, Tryz.ntmps103
      go_wp2_with (first | (go_at_call 101; (with_reducible refine (CD.out _ (by (with_reducible repeat (first | exact blr _ | refine bla ?_ _ | refine blw _ ?_ | refine bld ?_ | refine bln _ ?_ | refine bls ?_ _ | refine blt ?_)))).mono ?_); rintro e w_ ⟨rfl, hb_⟩; obtain ⟨y1, rfl⟩ := Soft.BW.mk hb_; clear hb_) | (go_at_call 102; (with_reducible refine (CT.out _ (by (with_reducible repeat (first | exact blr _ | refine bla ?_ _ | refine blw _ ?_ | refine bld ?_ | refine bln _ ?_ | refine bls ?_ _ | refine blt ?_)))).mono ?_); rintro e w_ ⟨rfl, hb_⟩; obtain ⟨y2, rfl⟩ := Soft.BW.mk hb_; clear hb_) | (go_at_call 116; (with_reducible refine (CQ.out _).mono ?_); rintro e w_ ⟨rfl, hb_⟩; obtain ⟨y3, rfl⟩ := Soft.BW.mk hb_; clear hb_))
      (refine Soft.region0 [0, 1, 2, 3, 4, 5] [6, 7, 8] (by kernel_rfl) (by kernel_rfl) (by kernel_rfl) (by kernel_rfl) ?_; change Soft.wpSoft _ _ _ _ _ [_, _, _, _, _, _] _; (repeat (refine Soft.soft_step (fun K hK => ?_); go_simp; (try go_bits); first | (refine hK _ ?_; clear hK K) | (apply Exists.intro; refine ⟨fun x => ?_, hK _ ?_⟩; (first | (go_at_call 61; with_reducible exact (CP.out _)) | (go_at_call 50; with_reducible exact (CM.out _))); clear hK K))); refine Soft.soft_nil ?_; intro xw; change wpList _ _ _ [_, _, _] _ _)
      go_wp2_with fail
      refine bodyPost_ret (v := .tuple #[.agg #[.int .i64 (pl).lo, .int .i64 (pl).hi], .agg #[.int .i64 (mi).lo, .int .i64 (mi).hi], .int .i64 0]) (by simp [results, Tryz.results103, go_sem]) rfl ?_
      refine ⟨rfl, ?_⟩
      (with_reducible repeat (first | exact blr _ | refine bla ?_ _ | refine blw _ ?_ | refine bld ?_ | refine bln _ ?_ | refine bls ?_ _ | refine blt ?_))
    · rw [HE.out, if_pos rfl, if_neg h1]
      have dT : (tr != 0) = true := bne_iff_ne.2 h1
      clear HE HD HT h1 d1 d2 d3
      go_enter Tryz.func103, Tryz.ntmps103
      go_wp2_with (first | (go_at_call 101; (with_reducible refine (CD.out _ (by (with_reducible repeat (first | exact blr _ | refine bla ?_ _ | refine blw _ ?_ | refine bld ?_ | refine bln _ ?_ | refine bls ?_ _ | refine blt ?_)))).mono ?_); rintro e w_ ⟨rfl, hb_⟩; obtain ⟨y1, rfl⟩ := Soft.BW.mk hb_; clear hb_) | (go_at_call 102; (with_reducible refine (CT.out _ (by (with_reducible repeat (first | exact blr _ | refine bla ?_ _ | refine blw _ ?_ | refine bld ?_ | refine bln _ ?_ | refine bls ?_ _ | refine blt ?_)))).mono ?_); rintro e w_ ⟨rfl, hb_⟩; obtain ⟨y2, rfl⟩ := Soft.BW.mk hb_; clear hb_))
      refine bodyPost_ret (v := .tuple #[.agg #[.int .i64 0, .int .i64 0], .agg #[.int .i64 0, .int .i64 0], .int .i64 tr]) (by simp [results, Tryz.results103, go_sem]) rfl ?_
      refine ⟨rfl, ?_⟩
      (with_reducible repeat (first | exact blr _ | refine bla ?_ _ | refine blw _ ?_ | refine bld ?_ | refine bln _ ?_ | refine bls ?_ _ | refine blt ?_))
  · rw [HE.out, if_neg h0]
    have dD : (dr != 0) = true := bne_iff_ne.2 h0
    clear HE HD HT h0
    go_enter Tryz.func103, Tryz.ntmps103
    go_wp2_with (first | (go_at_call 101; (with_reducible refine (CD.out _ (by (with_reducible repeat (first | exact blr _ | refine bla ?_ _ | refine blw _ ?_ | refine bld ?_ | refine bln _ ?_ | refine bls ?_ _ | refine blt ?_)))).mono ?_); rintro e w_ ⟨rfl, hb_⟩; obtain ⟨y1, rfl⟩ := Soft.BW.mk hb_; clear hb_))
    refine bodyPost_ret (v := .tuple #[.agg #[.int .i64 0, .int .i64 0], .agg #[.int .i64 0, .int .i64 0], .int .i64 dr]) (by simp [results, Tryz.results103, go_sem]) rfl ?_
    refine ⟨rfl, ?_⟩
    (with_reducible repeat (first | exact blr _ | refine bla ?_ _ | refine blw _ ?_ | refine bld ?_ | refine bln _ ?_ | refine bls ?_ _ | refine blt ?_))

end Go.Proofs.YteagdcgmmdiakaaGreat

namespace Go.Proofs.YteagdcgmmdiakaaGreat
set_option linter.unusedSimpArgs false
set_option linter.unusedVariables false
open Go.RowKit
set_option maxRecDepth 100000
set_option maxHeartbeats 8000000
attribute [local go_sem] Instr.field asAgg Soft.upon Soft.upon0 Soft.stepC Soft.BW.cell_if Soft.BW.frozen_if Soft.cell_alloc_if Soft.frozen_alloc_if
attribute [local irreducible] Soft.wpSoft Soft.wpMix

abbrev nTon : ByteArray := ⟨#[116, 111, 110, 110, 101, 115]⟩
abbrev nDra : ByteArray := ⟨#[100, 114, 97, 102, 116]⟩
abbrev nTri : ByteArray := ⟨#[116, 114, 105, 109]⟩
abbrev nFor : ByteArray := ⟨#[102, 111, 114, 101]⟩
abbrev nAft : ByteArray := ⟨#[97, 102, 116]⟩
abbrev nGm : ByteArray := ⟨#[103, 109]⟩
abbrev nHee : ByteArray := ⟨#[104, 101, 101, 108]⟩
abbrev nFlo : ByteArray := ⟨#[102, 108, 111, 111, 100]⟩
abbrev nAre : ByteArray := ⟨#[97, 114, 101, 97]⟩
theorem fctE_len (nm : ByteArray) (E : Rg × Int) : (fctE nm E).length ≤ 1 := by
  unfold fctE; split <;> simp
/-- All facts. -/
noncomputable def facE (S : Sh) (L : La) (V : Wt) (most : Int) : List Ft :=
  [] ++ fctE nTon (tonR V, 0) ++ fctE nDra (overE S.dra.ps (tonR V)) ++ fctE nTri (triE S L V) ++ fctE nFor ((endE S L V).1.1, (endE S L V).2) ++ fctE nAft ((endE S L V).1.2, (endE S L V).2) ++ fctE nGm (metE S L V) ++ fctE nHee (cheelE S L V) ++ fctE nFlo (overE S.flo.ps (tonR V)) ++ fctE nAre (aeE S L V most)
def FactPost (l : List Ft) (er : Int) (w : World) (e : Ending) (w' : World) : Prop := ∃ q : Fs, e = .returned (.tuple #[.slice q.p q.n q.c, .int .i64 er]) ∧ q.At w' ∧ q.xs = l ∧ Below w.heap.size w w'

theorem cond_Facts_bad (S : Sh) (L : La) (most : Int) (w : World) (hS : S.At w) (hL : L.At w) (ok : ShipOk S) (h0 : moErr L most ≠ 0) :
    Calls Tryz.prog 44 #[.agg #[.int .i64 (S).len, .slice ((S).dra).p ((S).dra).n ((S).dra).c, .slice ((S).hei).p ((S).hei).n ((S).hei).c, .slice ((S).cen).p ((S).cen).n ((S).cen).c, .slice ((S).tri).p ((S).tri).n ((S).tri).c, .slice ((S).flo).p ((S).flo).n ((S).flo).c, .slice ((S).cross).p ((S).cross).n ((S).cross).c, .slice ((S).sin).p ((S).sin).n ((S).sin).c, .slice ((S).shi).p ((S).shi).n ((S).shi).c, .int .i64 (((S).light).mass).lo, .int .i64 (((S).light).mass).hi, .int .i64 (((S).light).along).lo, .int .i64 (((S).light).along).hi, .int .i64 (((S).light).high).lo, .int .i64 (((S).light).high).hi], .agg #[.slice ((L).ws).p ((L).ws).n ((L).ws).c, .int .i64 ((L).sur).lo, .int .i64 ((L).sur).hi, .int .i64 ((L).shi).lo, .int .i64 ((L).shi).hi], .int .i64 most] w (FactPost [] (moErr L most) w) := by
  have CK := Lib.hid (fun W (hb : Below w.heap.size w W) => cond_checkMost S L most W (hS.same hb) (hL.same hb) ok)
  obtain ⟨v0, v1, v2, v3, v4, v5, v6, v7, v8, v9, v10, v11, v12, v13, v14, HS0, E1, E2, E3, E4, E5, E6, E7, E8, E9⟩ := ship_letters S
  obtain ⟨x0, x1, x2, x3, x4, HL0, F0, F1, F2⟩ := load_letters L
  rw [HS0.out, HL0.out] at CK ⊢
  clear hS hL ok
  generalize moErr L most = R at *
  have dR : (R != 0) = true := bne_iff_ne.2 h0
  clear h0
  go_enter Tryz.func44, Tryz.ntmps44
  go_wp2_with (first | (go_at_call 97; (with_reducible refine (CK.out _ (by (with_reducible repeat (first | exact blr _ | refine bla ?_ _ | refine blw _ ?_ | refine bld ?_ | refine bln _ ?_ | refine bls ?_ _ | refine blt ?_)))).mono ?_); rintro e w_ ⟨rfl, hb_⟩; obtain ⟨y1, rfl⟩ := Soft.BW.mk hb_; clear hb_))
  refine bodyPost_ret (v := .tuple #[.slice none 0 0, .int .i64 R]) (by simp [results, Tryz.results44, go_sem]) rfl ?_
  refine ⟨⟨none, 0, 0, []⟩, rfl, ⟨rfl, Nat.le_refl _, by dsimp only; omega, fun h => absurd rfl h⟩, rfl, ?_⟩
  (with_reducible repeat (first | exact blr _ | refine bla ?_ _ | refine blw _ ?_ | refine bld ?_ | refine bln _ ?_ | refine bls ?_ _ | refine blt ?_))

/-- What holds between two facts. -/
structure FaT (w : World) (Bo : Nat) (S : Sh) (L : La) (most : Int) (k : Nat) (W : World) (v : Value) (l : List Ft) : Prop where
  s : FaS w.heap.size Bo S L most W v l
  b : Below w.heap.size w W
  n : l.length ≤ k
theorem FaT.same {w : World} {Bo : Nat} {S : Sh} {L : La} {most : Int} {k : Nat} {W W' : World} {v : Value} {l : List Ft} (h : FaT w Bo S L most k W v l) (hb : Below W.heap.size W W') : FaT w Bo S L most k W' v l :=
  ⟨h.s.same hb, bel_step h.b hb, h.n⟩
theorem FaT.next {w : World} {Bo : Nat} {S : Sh} {L : La} {most : Int} {k : Nat} {W W' : World} {v v' : Value} {l : List Ft} {nm : ByteArray} {E : Rg × Int} (h : FaT w Bo S L most k W v l) (hs : FaS w.heap.size Bo S L most W' v' (l ++ fctE nm E)) (hk : KeepF Bo v W W') : FaT w Bo S L most (k + 1) W' v' (l ++ fctE nm E) :=
  ⟨hs, h.b.trans (hk.below h.s (by have := h.s.lo; omega)), by have := fctE_len nm E; have := h.n; rw [List.length_append]; omega⟩

theorem toldTon (S : Sh) (L : La) (V : Wt) (most : Int) (w : World) (h : Afl S L V w) (Bo k : Nat) (hk : k ≤ 90) (W : World) (v : Value) (l : List Ft) (hf : FaT w Bo S L most k W v l) :
    Calls Tryz.prog 99 #[.string nTon, .func (.func 100) #[] #[], .pointer (some ⟨w.heap.size, 0, none⟩), .pointer (some ⟨w.heap.size + 1, 0, none⟩), .pointer (some ⟨Bo + 1, 0, none⟩)] W fun e W' => e = .returned (.tuple #[]) ∧ ∃ v', FaT w Bo S L most (k + 1) W' v' (l ++ fctE nTon (tonR V, 0)) :=
  (facts_told2 100 (cf_enter Tryz.func100 (by kernel_rfl) rfl) w.heap.size Bo S L most W v l hf.s (Nat.le_trans hf.n hk) nTon (tonR V, 0) (fun W' hb => cond_Tonnes S L V W' (h.same (bel_step hf.b hb)))).mono fun _ _ q => ⟨q.1, q.2.elim fun v' r => ⟨v', hf.next r.1 r.2⟩⟩
theorem toldDra (S : Sh) (L : La) (V : Wt) (most : Int) (w : World) (h : Afl S L V w) (Bo k : Nat) (hk : k ≤ 90) (W : World) (v : Value) (l : List Ft) (hf : FaT w Bo S L most k W v l) :
    Calls Tryz.prog 99 #[.string nDra, .func (.func 101) #[] #[], .pointer (some ⟨w.heap.size, 0, none⟩), .pointer (some ⟨w.heap.size + 1, 0, none⟩), .pointer (some ⟨Bo + 1, 0, none⟩)] W fun e W' => e = .returned (.tuple #[]) ∧ ∃ v', FaT w Bo S L most (k + 1) W' v' (l ++ fctE nDra (overE S.dra.ps (tonR V))) :=
  (facts_told2 101 (cf_enter Tryz.func101 (by kernel_rfl) rfl) w.heap.size Bo S L most W v l hf.s (Nat.le_trans hf.n hk) nDra (overE S.dra.ps (tonR V)) (fun W' hb => cond_Draft S L V W' (h.same (bel_step hf.b hb)))).mono fun _ _ q => ⟨q.1, q.2.elim fun v' r => ⟨v', hf.next r.1 r.2⟩⟩
theorem toldTri (S : Sh) (L : La) (V : Wt) (most : Int) (w : World) (h : Afl S L V w) (Bo k : Nat) (hk : k ≤ 90) (W : World) (v : Value) (l : List Ft) (hf : FaT w Bo S L most k W v l) :
    Calls Tryz.prog 99 #[.string nTri, .func (.func 102) #[] #[], .pointer (some ⟨w.heap.size, 0, none⟩), .pointer (some ⟨w.heap.size + 1, 0, none⟩), .pointer (some ⟨Bo + 1, 0, none⟩)] W fun e W' => e = .returned (.tuple #[]) ∧ ∃ v', FaT w Bo S L most (k + 1) W' v' (l ++ fctE nTri (triE S L V)) :=
  (facts_told2 102 (cf_enter Tryz.func102 (by kernel_rfl) rfl) w.heap.size Bo S L most W v l hf.s (Nat.le_trans hf.n hk) nTri (triE S L V) (fun W' hb => cond_Trim S L V W' (h.same (bel_step hf.b hb)))).mono fun _ _ q => ⟨q.1, q.2.elim fun v' r => ⟨v', hf.next r.1 r.2⟩⟩
theorem toldGm (S : Sh) (L : La) (V : Wt) (most : Int) (w : World) (h : Afl S L V w) (Bo k : Nat) (hk : k ≤ 90) (W : World) (v : Value) (l : List Ft) (hf : FaT w Bo S L most k W v l) :
    Calls Tryz.prog 99 #[.string nGm, .func (.func 104) #[] #[], .pointer (some ⟨w.heap.size, 0, none⟩), .pointer (some ⟨w.heap.size + 1, 0, none⟩), .pointer (some ⟨Bo + 1, 0, none⟩)] W fun e W' => e = .returned (.tuple #[]) ∧ ∃ v', FaT w Bo S L most (k + 1) W' v' (l ++ fctE nGm (metE S L V)) :=
  (facts_told2 104 (cf_enter Tryz.func104 (by kernel_rfl) rfl) w.heap.size Bo S L most W v l hf.s (Nat.le_trans hf.n hk) nGm (metE S L V) (fun W' hb => cond_Metric S L V W' (h.same (bel_step hf.b hb)))).mono fun _ _ q => ⟨q.1, q.2.elim fun v' r => ⟨v', hf.next r.1 r.2⟩⟩
theorem toldHee (S : Sh) (L : La) (V : Wt) (most : Int) (w : World) (h : Afl S L V w) (Bo k : Nat) (hk : k ≤ 90) (W : World) (v : Value) (l : List Ft) (hf : FaT w Bo S L most k W v l) :
    Calls Tryz.prog 99 #[.string nHee, .func (.func 105) #[] #[], .pointer (some ⟨w.heap.size, 0, none⟩), .pointer (some ⟨w.heap.size + 1, 0, none⟩), .pointer (some ⟨Bo + 1, 0, none⟩)] W fun e W' => e = .returned (.tuple #[]) ∧ ∃ v', FaT w Bo S L most (k + 1) W' v' (l ++ fctE nHee (cheelE S L V)) :=
  (facts_told2 105 (cf_enter Tryz.func105 (by kernel_rfl) rfl) w.heap.size Bo S L most W v l hf.s (Nat.le_trans hf.n hk) nHee (cheelE S L V) (fun W' hb => cond_Heel S L V W' (h.same (bel_step hf.b hb)))).mono fun _ _ q => ⟨q.1, q.2.elim fun v' r => ⟨v', hf.next r.1 r.2⟩⟩
theorem toldFlo (S : Sh) (L : La) (V : Wt) (most : Int) (w : World) (h : Afl S L V w) (Bo k : Nat) (hk : k ≤ 90) (W : World) (v : Value) (l : List Ft) (hf : FaT w Bo S L most k W v l) :
    Calls Tryz.prog 99 #[.string nFlo, .func (.func 106) #[] #[], .pointer (some ⟨w.heap.size, 0, none⟩), .pointer (some ⟨w.heap.size + 1, 0, none⟩), .pointer (some ⟨Bo + 1, 0, none⟩)] W fun e W' => e = .returned (.tuple #[]) ∧ ∃ v', FaT w Bo S L most (k + 1) W' v' (l ++ fctE nFlo (overE S.flo.ps (tonR V))) :=
  (facts_told2 106 (cf_enter Tryz.func106 (by kernel_rfl) rfl) w.heap.size Bo S L most W v l hf.s (Nat.le_trans hf.n hk) nFlo (overE S.flo.ps (tonR V)) (fun W' hb => facts_flood S L V W' (h.same (bel_step hf.b hb)))).mono fun _ _ q => ⟨q.1, q.2.elim fun v' r => ⟨v', hf.next r.1 r.2⟩⟩
theorem toldAre (S : Sh) (L : La) (V : Wt) (most : Int) (w : World) (h : Afl S L V w) (Bo k : Nat) (hk : k ≤ 90) (W : World) (v : Value) (l : List Ft) (hf : FaT w Bo S L most k W v l) :
    Calls Tryz.prog 99 #[.string nAre, .func (.func 109) #[] #[.pointer (some ⟨w.heap.size + 1 + 1, 0, none⟩)], .pointer (some ⟨w.heap.size, 0, none⟩), .pointer (some ⟨w.heap.size + 1, 0, none⟩), .pointer (some ⟨Bo + 1, 0, none⟩)] W fun e W' => e = .returned (.tuple #[]) ∧ ∃ v', FaT w Bo S L most (k + 1) W' v' (l ++ fctE nAre (aeE S L V most)) :=
  (facts_told3 109 (w.heap.size + 1 + 1) (cf_enter Tryz.func109 (by kernel_rfl) rfl) w.heap.size Bo S L most W v l hf.s (Nat.le_trans hf.n hk) nAre (aeE S L V most) (fun W' hb => facts_area S L V most W' (h.same (bel_step hf.b hb)) (w.heap.size + 1 + 1) (hf.s.mo.below hb))).mono fun _ _ q => ⟨q.1, q.2.elim fun v' r => ⟨v', hf.next r.1 r.2⟩⟩
theorem toldAdd (S : Sh) (L : La) (most : Int) (w : World) (nm : ByteArray) (E : Rg × Int) (Bo k : Nat) (hk : k ≤ 90) (W : World) (v : Value) (l : List Ft) (hf : FaT w Bo S L most k W v l) :
    Calls Tryz.prog 98 #[.string nm, .agg #[.int .i64 (E.1).lo, .int .i64 (E.1).hi], .int .i64 E.2, .pointer (some ⟨Bo, 0, none⟩)] W fun e W' => e = .returned (.tuple #[]) ∧ ∃ v', FaT w Bo S L most (k + 1) W' v' (l ++ fctE nm E) ∧ KeepF Bo v W W' :=
  (facts_add w.heap.size Bo S L most W v l hf.s (Nat.le_trans hf.n hk) nm E).mono fun _ _ q => ⟨q.1, q.2.elim fun v' r => ⟨v', hf.next r.1 r.2, r.2⟩⟩

theorem cond_Facts (S : Sh) (L : La) (V : Wt) (most : Int) (w : World) (h : Afl S L V w) (hm : 0 ≤ most ∧ most ≤ 900) :
    Calls Tryz.prog 44 #[.agg #[.int .i64 (S).len, .slice ((S).dra).p ((S).dra).n ((S).dra).c, .slice ((S).hei).p ((S).hei).n ((S).hei).c, .slice ((S).cen).p ((S).cen).n ((S).cen).c, .slice ((S).tri).p ((S).tri).n ((S).tri).c, .slice ((S).flo).p ((S).flo).n ((S).flo).c, .slice ((S).cross).p ((S).cross).n ((S).cross).c, .slice ((S).sin).p ((S).sin).n ((S).sin).c, .slice ((S).shi).p ((S).shi).n ((S).shi).c, .int .i64 (((S).light).mass).lo, .int .i64 (((S).light).mass).hi, .int .i64 (((S).light).along).lo, .int .i64 (((S).light).along).hi, .int .i64 (((S).light).high).lo, .int .i64 (((S).light).high).hi], .agg #[.slice ((L).ws).p ((L).ws).n ((L).ws).c, .int .i64 ((L).sur).lo, .int .i64 ((L).sur).hi, .int .i64 ((L).shi).lo, .int .i64 ((L).shi).hi], .int .i64 most] w (FactPost (facE S L V most) 0 w) := by
  have HMO := Lib.hid (show moErr L most = 0 by unfold moErr; rw [ldErr_ok h.li, if_pos rfl, if_pos hm])
  have CK := Lib.hid (fun W (hb : Below w.heap.size w W) => cond_checkMost S L most W (h.s.same hb) (h.l.same hb) h.ok)
  rw [HMO.out] at CK
  have TTon := Lib.hid (toldTon S L V most w h)
  have TDra := Lib.hid (toldDra S L V most w h)
  have TTri := Lib.hid (toldTri S L V most w h)
  have TGm := Lib.hid (toldGm S L V most w h)
  have THee := Lib.hid (toldHee S L V most w h)
  have TFlo := Lib.hid (toldFlo S L V most w h)
  have TAre := Lib.hid (toldAre S L V most w h)
  have TA := Lib.hid (toldAdd S L most w)
  have CE := Lib.hid (fun W (hb : Below w.heap.size w W) => cond_Ends S L V W (h.same hb))
  have HF := Lib.hid (show facE S L V most = [] ++ fctE nTon (tonR V, 0) ++ fctE nDra (overE S.dra.ps (tonR V)) ++ fctE nTri (triE S L V) ++ fctE nFor ((endE S L V).1.1, (endE S L V).2) ++ fctE nAft ((endE S L V).1.2, (endE S L V).2) ++ fctE nGm (metE S L V) ++ fctE nHee (cheelE S L V) ++ fctE nFlo (overE S.flo.ps (tonR V)) ++ fctE nAre (aeE S L V most) from rfl)
  obtain ⟨v0, v1, v2, v3, v4, v5, v6, v7, v8, v9, v10, v11, v12, v13, v14, HS0, E1, E2, E3, E4, E5, E6, E7, E8, E9⟩ := ship_letters S
  obtain ⟨x0, x1, x2, x3, x4, HL0, F0, F1, F2⟩ := load_letters L
  rw [HS0.out, HL0.out] at CK CE ⊢
  clear h hm HMO
  generalize facE S L V most = FL at *
  generalize endE S L V = ED at *
  obtain ⟨⟨⟨e0, e1⟩, ⟨e2, e3⟩⟩, ee⟩ := ED
  dsimp only at CE
  go_enter Tryz.func44, Tryz.ntmps44
  go_wp2_with (first | (go_at_call 97; (with_reducible refine (CK.out _ (by (with_reducible repeat (first | exact blr _ | refine bla ?_ _ | refine blw _ ?_ | refine bld ?_ | refine bln _ ?_ | refine bls ?_ _ | refine blt ?_)))).mono ?_); rintro e w_ ⟨rfl, hb_⟩; obtain ⟨y1, rfl⟩ := Soft.BW.mk hb_; clear hb_))
  have a0 : HasBlk ((y1.w.alloc (.cells #[.slice none 0 0] 62)).alloc (.cells #[.func (.func 98) #[] #[.pointer (some ⟨y1.w.heap.size, 0, none⟩)]] 152)) y1.w.heap.size #[.slice none 0 0] 62 := (by simp only [HasBlk, Soft.BW.heap_if, Soft.heap_alloc_if, Soft.heap_new, Soft.heap_new1, Soft.heap_new2, Soft.heap_new3, Soft.heap_new4, Soft.heap_new5])
  have a1 : HasBlk ((y1.w.alloc (.cells #[.slice none 0 0] 62)).alloc (.cells #[.func (.func 98) #[] #[.pointer (some ⟨y1.w.heap.size, 0, none⟩)]] 152)) (y1.w.heap.size + 1) #[.func (.func 98) #[] #[.pointer (some ⟨y1.w.heap.size, 0, none⟩)]] 152 := (by simp only [HasBlk, Soft.BW.heap_if, Soft.heap_alloc_if, Soft.heap_new, Soft.heap_new1, Soft.heap_new2, Soft.heap_new3, Soft.heap_new4, Soft.heap_new5])
  have a2 : HasBlk ((y1.w.alloc (.cells #[.slice none 0 0] 62)).alloc (.cells #[.func (.func 98) #[] #[.pointer (some ⟨y1.w.heap.size, 0, none⟩)]] 152)) w.heap.size #[.int .i64 (S).len, .slice ((S).dra).p ((S).dra).n ((S).dra).c, .slice ((S).hei).p ((S).hei).n ((S).hei).c, .slice ((S).cen).p ((S).cen).n ((S).cen).c, .slice ((S).tri).p ((S).tri).n ((S).tri).c, .slice ((S).flo).p ((S).flo).n ((S).flo).c, .slice ((S).cross).p ((S).cross).n ((S).cross).c, .slice ((S).sin).p ((S).sin).n ((S).sin).c, .slice ((S).shi).p ((S).shi).n ((S).shi).c, .int .i64 (((S).light).mass).lo, .int .i64 (((S).light).mass).hi, .int .i64 (((S).light).along).lo, .int .i64 (((S).light).along).hi, .int .i64 (((S).light).high).lo, .int .i64 (((S).light).high).hi] 31 := by
    rw [HS0.out]
    exact (by simp only [HasBlk, Soft.BW.heap_if, Soft.heap_alloc_if, Soft.heap_new, Soft.heap_new1, Soft.heap_new2, Soft.heap_new3, Soft.heap_new4, Soft.heap_new5])
  have a3 : HasBlk ((y1.w.alloc (.cells #[.slice none 0 0] 62)).alloc (.cells #[.func (.func 98) #[] #[.pointer (some ⟨y1.w.heap.size, 0, none⟩)]] 152)) (w.heap.size + 1) #[.slice ((L).ws).p ((L).ws).n ((L).ws).c, .int .i64 ((L).sur).lo, .int .i64 ((L).sur).hi, .int .i64 ((L).shi).lo, .int .i64 ((L).shi).hi] 58 := by
    rw [HL0.out]
    exact (by simp only [HasBlk, Soft.BW.heap_if, Soft.heap_alloc_if, Soft.heap_new, Soft.heap_new1, Soft.heap_new2, Soft.heap_new3, Soft.heap_new4, Soft.heap_new5])
  have a4 : HasBlk ((y1.w.alloc (.cells #[.slice none 0 0] 62)).alloc (.cells #[.func (.func 98) #[] #[.pointer (some ⟨y1.w.heap.size, 0, none⟩)]] 152)) (w.heap.size + 2) #[.int .i64 most] 3 := (by simp only [HasBlk, Soft.BW.heap_if, Soft.heap_alloc_if, Soft.heap_new, Soft.heap_new1, Soft.heap_new2, Soft.heap_new3, Soft.heap_new4, Soft.heap_new5])
  have hz : w.heap.size + 3 ≤ y1.w.heap.size := by have := y1.below.size; simp at this; omega
  have f0 : FaT w y1.w.heap.size S L most 0 ((y1.w.alloc (.cells #[.slice none 0 0] 62)).alloc (.cells #[.func (.func 98) #[] #[.pointer (some ⟨y1.w.heap.size, 0, none⟩)]] 152)) (.slice none 0 0) [] := ⟨⟨a0, World.ownsRow_nil _ _ _ _, a1, a2, a3, a4, hz, by simp⟩, by (with_reducible repeat (first | exact blr _ | refine bla ?_ _ | refine blw _ ?_ | refine bld ?_ | refine bln _ ?_ | refine bls ?_ _ | refine blt ?_)), Nat.le_refl _⟩
  clear a0 a1 a2 a3 a4 CK
  generalize ((y1.w.alloc (.cells #[.slice none 0 0] 62)).alloc (.cells #[.func (.func 98) #[] #[.pointer (some ⟨y1.w.heap.size, 0, none⟩)]] 152)) = W0 at *
  generalize y1.w.heap.size = Bo at *
  have TFor := Lib.hid (show ∀ (W : World) (v : Value) (l : List Ft), FaT w Bo S L most 3 W v l → Calls Tryz.prog 98 #[.string nFor, .agg #[.int .i64 e0, .int .i64 e1], .int .i64 ee, .pointer (some ⟨Bo, 0, none⟩)] W fun e W' => e = .returned (.tuple #[]) ∧ ∃ v', FaT w Bo S L most 4 W' v' (l ++ fctE nFor (⟨e0, e1⟩, ee)) ∧ KeepF Bo v W W' from TA.out nFor (⟨e0, e1⟩, ee) Bo 3 (by decide))
  have TAft := Lib.hid (show ∀ (W : World) (v : Value) (l : List Ft), FaT w Bo S L most 4 W v l → Calls Tryz.prog 98 #[.string nAft, .agg #[.int .i64 e2, .int .i64 e3], .int .i64 ee, .pointer (some ⟨Bo, 0, none⟩)] W fun e W' => e = .returned (.tuple #[]) ∧ ∃ v', FaT w Bo S L most 5 W' v' (l ++ fctE nAft (⟨e2, e3⟩, ee)) ∧ KeepF Bo v W W' from TA.out nAft (⟨e2, e3⟩, ee) Bo 4 (by decide))
  clear TA
  go_wp2_with (first
    | (go_at_call 99; with_reducible refine (TTon.out Bo 0 (by decide) W0 _ _ f0).mono ?_; rintro e w1 ⟨rfl, t1, f1⟩)
    | (go_at_call 99; with_reducible refine (TDra.out Bo 1 (by decide) w1 _ _ f1).mono ?_; rintro e w2 ⟨rfl, t2, f2⟩)
    | (go_at_call 99; with_reducible refine (TTri.out Bo 2 (by decide) w2 _ _ f2).mono ?_; rintro e w3 ⟨rfl, t3, f3⟩; have aa3 := f3.s.add.cell 0; simp at aa3; have la3 := Soft.LtH.mk (b := Bo + 1) (w := w3) f3.s.add.lt; have hs3 := f3.s.sh; have hl3 := f3.s.ld; rw [HS0.out] at hs3; rw [HL0.out] at hl3; have s0 := hs3.cell 0; have s1 := hs3.cell 1; have s2 := hs3.cell 2; have s3 := hs3.cell 3; have s4 := hs3.cell 4; have s5 := hs3.cell 5; have s6 := hs3.cell 6; have s7 := hs3.cell 7; have s8 := hs3.cell 8; have s9 := hs3.cell 9; have s10 := hs3.cell 10; have s11 := hs3.cell 11; have s12 := hs3.cell 12; have s13 := hs3.cell 13; have s14 := hs3.cell 14; have m0 := hl3.cell 0; have m1 := hl3.cell 1; have m2 := hl3.cell 2; have m3 := hl3.cell 3; have m4 := hl3.cell 4; simp at s0 s1 s2 s3 s4 s5 s6 s7 s8 s9 s10 s11 s12 s13 s14 m0 m1 m2 m3 m4; have ls3 := Soft.LtH.mk (b := w.heap.size) (w := w3) hs3.lt; have ll3 := Soft.LtH.mk (b := w.heap.size + 1) (w := w3) hl3.lt; clear hs3 hl3)
    | (go_at_call 103; refine (CE.out _ f3.b).mono ?_; rintro e w_ ⟨rfl, hb_⟩; obtain ⟨y2, rfl⟩ := Soft.BW.mk hb_; clear hb_)
    | (go_at_call 98; (with_reducible refine (TFor.out _ _ _ (f3.same (show Below w3.heap.size w3 ((y2.w.alloc (.cells #[.int .i64 e0, .int .i64 e1] 27)).alloc (.cells #[.int .i64 e2, .int .i64 e3] 27)) by (with_reducible repeat (first | exact blr _ | refine bla ?_ _ | refine blw _ ?_ | refine bld ?_ | refine bln _ ?_ | refine bls ?_ _ | refine blt ?_))))).mono ?_); rintro e w4 ⟨rfl, t4, f4, k4⟩; have aa4 := f4.s.add.cell 0; simp at aa4; have la4 := Soft.LtH.mk (b := Bo + 1) (w := w4) f4.s.add.lt; have af4 : HasBlk w4 (y2.w.heap.size + 1) #[.int .i64 e2, .int .i64 e3] 27 := (k4.block (y2.w.heap.size + 1) (by simp) (by have := f3.s.hi; have := y2.below.size; omega) (fun q => by have := (World.ownsRow.lt f3.s.own _ q).2; have := y2.below.size; omega)).trans (Soft.heap_new1 y2.w _ _); have b0 := af4.cell 0; have b1 := af4.cell 1; simp at b0 b1; have lb4 := Soft.LtH.mk (b := y2.w.heap.size + 1) (w := w4) af4.lt)
    | (go_at_call 98; with_reducible refine (TAft.out _ _ _ f4).mono ?_; rintro e w5 ⟨rfl, t5, f5, k5⟩)
    | (go_at_call 99; with_reducible refine (TGm.out Bo 5 (by decide) w5 _ _ f5).mono ?_; rintro e w6 ⟨rfl, t6, f6⟩)
    | (go_at_call 99; with_reducible refine (THee.out Bo 6 (by decide) w6 _ _ f6).mono ?_; rintro e w7 ⟨rfl, t7, f7⟩)
    | (go_at_call 99; with_reducible refine (TFlo.out Bo 7 (by decide) w7 _ _ f7).mono ?_; rintro e w8 ⟨rfl, t8, f8⟩)
    | (go_at_call 99; with_reducible refine (TAre.out Bo 8 (by decide) w8 _ _ f8).mono ?_; rintro e w9 ⟨rfl, t9, f9⟩; have o9 := f9.s.out.cell 0; simp at o9; have lo9 := Soft.LtH.mk (b := Bo) (w := w9) f9.s.out.lt))
  refine bodyPost_ret (v := .tuple #[t9, .int .i64 0]) (by simp [results, Tryz.results44, go_sem]) rfl ?_
  obtain ⟨q, rfl, hq, hqx⟩ := OwnF.fs f9.s.own
  exact ⟨q, rfl, hq, hqx.trans HF.out.symm, f9.b⟩

end Go.Proofs.YteagdcgmmdiakaaGreat
