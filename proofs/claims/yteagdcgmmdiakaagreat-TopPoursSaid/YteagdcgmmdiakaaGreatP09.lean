/-
  Slices of holds, fills, tanks, levels and weights as they lie in memory; loads; SameWeights.
  Loads, plain: what the holds and the tanks of a ship make together.
  Loads, plain: what each step of the two runs comes to, and how great the sums are.
  Levels and ranges as arguments, opened.
  Slices of holds, fills, tanks and levels as arguments, opened.
  A region that draws its order, whose calls are chained: what only reads is carried out first, in whatever order it comes up; then the calls, each in the world that the one before has left.
  Conditions: each theorem's own premises.
-/
import Derived.Test.YteagdcgmmdiakaaGreatP07
import Derived.Test.YteagdcgmmdiakaaGreatP08
import Derived.Test.YteagdcgmmdiakaaGreatP01
namespace Go.Proofs.YteagdcgmmdiakaaGreat
set_option linter.unusedSimpArgs false
set_option linter.unusedVariables false
open Go.RowKit
set_option maxRecDepth 100000
set_option maxHeartbeats 4000000
attribute [local go_sem] Instr.field asAgg Soft.upon Soft.BW.cell_if Soft.BW.frozen_if Soft.cell_alloc_if Soft.frozen_alloc_if

/-- Elements of so many cells each, one behind the other. -/
def RowsAt (w : World) (p : Option Addr) (n c sz : Nat) (cs : Nat → List Value) : Prop :=
  n ≤ c ∧ c ≤ 9223372036854775807 ∧ (n ≠ 0 → ∃ b o, p = some ⟨b, o, none⟩ ∧ b < w.heap.size ∧ ∀ i, i < n → ∀ j v, (cs i)[j]? = some v → w.cell? ⟨b, o + i * sz + j, none⟩ = some v)
theorem RowsAt.same {w w' : World} {p : Option Addr} {n c sz : Nat} {cs : Nat → List Value} (h : RowsAt w p n c sz cs) (hb : Below w.heap.size w w') : RowsAt w' p n c sz cs := by
  obtain ⟨h1, h2, h3⟩ := h
  refine ⟨h1, h2, fun hn => ?_⟩
  obtain ⟨b, o, e, hlt, hc⟩ := h3 hn
  exact ⟨b, o, e, Nat.lt_of_lt_of_le hlt hb.size, fun i hi j v hv => (hb.cell (p := ⟨b, o + i * sz + j, none⟩) hlt).trans (hc i hi j v hv)⟩

instance : Inhabited Tb := ⟨⟨none, 0, 0, []⟩⟩
instance : Inhabited Ho := ⟨⟨0, default, default, default, default, default, default, default, default⟩⟩
instance : Inhabited Tk := ⟨⟨0, default, default, default, default⟩⟩
def hoC (h : Ho) : List Value := [.int .i64 (h).id, .int .i64 ((h).along).lo, .int .i64 ((h).along).hi, .slice ((h).vol).p ((h).vol).n ((h).vol).c, .slice ((h).mom).p ((h).mom).n ((h).mom).c, .slice ((h).hei).p ((h).hei).n ((h).hei).c, .int .i64 ((h).tri).lo, .int .i64 ((h).tri).hi, .int .i64 ((h).unt).lo, .int .i64 ((h).unt).hi, .int .i64 ((h).v0).lo, .int .i64 ((h).v0).hi, .int .i64 ((h).h0).lo, .int .i64 ((h).h0).hi]
def fiC (f : Fi) : List Value := [.int .i64 (f).hold, .int .i64 (f).state, .int .i64 ((f).ull).lo, .int .i64 ((f).ull).hi, .int .i64 ((f).den).lo, .int .i64 ((f).den).hi]
def tkC (t : Tk) : List Value := [.int .i64 (t).id, .int .i64 ((t).along).lo, .int .i64 ((t).along).hi, .slice ((t).vol).p ((t).vol).n ((t).vol).c, .slice ((t).sur).p ((t).sur).n ((t).sur).c, .slice ((t).hei).p ((t).hei).n ((t).hei).c]
def lvC (l : Lv) : List Value := [.int .i64 (l).tank, .bool (l).pressed, .int .i64 ((l).snd).lo, .int .i64 ((l).snd).hi, .int .i64 ((l).den).lo, .int .i64 ((l).den).hi]
def wtC (x : Wt) : List Value := [.int .i64 ((x).mass).lo, .int .i64 ((x).mass).hi, .int .i64 ((x).along).lo, .int .i64 ((x).along).hi, .int .i64 ((x).high).lo, .int .i64 ((x).high).hi]
abbrev hv (l : List Ho) (i : Nat) : Ho := l[i]?.getD default
abbrev fiv (l : List Fi) (i : Nat) : Fi := l[i]?.getD default
abbrev tv (l : List Tk) (i : Nat) : Tk := l[i]?.getD default
abbrev lv (l : List Lv) (i : Nat) : Lv := l[i]?.getD default
abbrev wv (l : List Wt) (i : Nat) : Wt := l[i]?.getD default

/-- A slice. -/
structure Sl (α : Type) where
  p : Option Addr
  n : Nat
  c : Nat
  xs : List α
def HsAt (w : World) (s : Sl Ho) : Prop := s.xs.length = s.n ∧ RowsAt w s.p s.n s.c 14 (fun i => hoC (hv s.xs i)) ∧ ∀ i, i < s.n → (hv s.xs i).At w
def FsAt (w : World) (s : Sl Fi) : Prop := s.xs.length = s.n ∧ RowsAt w s.p s.n s.c 6 (fun i => fiC (fiv s.xs i))
def TsAt (w : World) (s : Sl Tk) : Prop := s.xs.length = s.n ∧ RowsAt w s.p s.n s.c 6 (fun i => tkC (tv s.xs i)) ∧ ∀ i, i < s.n → (tv s.xs i).At w
def LsAt (w : World) (s : Sl Lv) : Prop := s.xs.length = s.n ∧ RowsAt w s.p s.n s.c 6 (fun i => lvC (lv s.xs i))
def WsAt (w : World) (s : Sl Wt) : Prop := s.xs.length = s.n ∧ RowsAt w s.p s.n s.c 6 (fun i => wtC (wv s.xs i))
theorem HsAt.same {w w' : World} {s : Sl Ho} (h : HsAt w s) (hb : Below w.heap.size w w') : HsAt w' s := ⟨h.1, h.2.1.same hb, fun i hi => (h.2.2 i hi).same hb⟩
theorem FsAt.same {w w' : World} {s : Sl Fi} (h : FsAt w s) (hb : Below w.heap.size w w') : FsAt w' s := ⟨h.1, h.2.same hb⟩
theorem TsAt.same {w w' : World} {s : Sl Tk} (h : TsAt w s) (hb : Below w.heap.size w w') : TsAt w' s := ⟨h.1, h.2.1.same hb, fun i hi => (h.2.2 i hi).same hb⟩
theorem LsAt.same {w w' : World} {s : Sl Lv} (h : LsAt w s) (hb : Below w.heap.size w w') : LsAt w' s := ⟨h.1, h.2.same hb⟩
theorem WsAt.same {w w' : World} {s : Sl Wt} (h : WsAt w s) (hb : Below w.heap.size w w') : WsAt w' s := ⟨h.1, h.2.same hb⟩
theorem wsAt_nil (w : World) : WsAt w ⟨none, 0, 0, []⟩ := ⟨rfl, Nat.le_refl _, by decide, fun h => absurd rfl h⟩

/-! ### Weights that grow -/

def wts : List Wt → List Value
  | [] => []
  | x :: l => wtC x ++ wts l
theorem wts_append (a b : List Wt) : wts (a ++ b) = wts a ++ wts b := by
  induction a with
  | nil => rfl
  | cons x l ih => simp [wts, ih]
theorem wts_length (a : List Wt) : (wts a).length = a.length * 6 := by
  induction a with
  | nil => rfl
  | cons x l ih => simp [wts, wtC, ih]; omega
theorem wts_get : ∀ (l : List Wt) (i : Nat), i < l.length → ∀ j, j < 6 → (wts l)[i * 6 + j]? = (wtC (wv l i))[j]?
  | x :: l, 0, _, j, hj => by
    simp only [wts, Nat.zero_mul, Nat.zero_add]
    rw [List.getElem?_append_left (by simpa [wtC] using hj)]
    rfl
  | x :: l, i + 1, h, j, hj => by
    have ih := wts_get l i (by simpa using h) j hj
    simp only [wts]
    rw [List.getElem?_append_right (by simp [wtC]; omega)]
    rw [show (i + 1) * 6 + j - (wtC x).length = i * 6 + j by simp [wtC]; omega, ih]
    simp [wv]

def OwnW (w : World) (B : Nat) (v : Value) (l : List Wt) : Prop := w.ownsRow B 29 6 v l.length (wts l)
theorem info_wt : (Tryz.prog.info? 29).map (fun i => (i.zero, i.size, i.bytes)) = some (some (.agg #[.int .i64 0, .int .i64 0, .int .i64 0, .int .i64 0, .int .i64 0, .int .i64 0]), 6, 48) := by kernel_rfl

theorem app_wt {w : World} {ops : Array Oper} {rest : List Oper} {o : Oper} {a : Act} {Q : Exit → Act → World → Prop} (hgd : o.guard = none) (s x : Operand)
    (ho : o.op = .call { callee := .builtin .append, args := #[s, x], argTypes := #[56, 56] }) (B : Nat) (v : Value) (l : List Wt) (hs : a.eval s = v) (hown : OwnW w B v l)
    (b : Nat) (y : Wt) (hx : a.eval x = .slice (some ⟨b, 0, none⟩) 1 1) (h0 : ∀ j u, (wtC y)[j]? = some u → w.cell? ⟨b, j, none⟩ = some u) (hn : l.length ≤ 1000) (hB : B ≤ w.heap.size)
    (h : ∀ v' w', OwnW w' B v' (l ++ [y]) → Below B w w' → w.grownBy w' v.ownBlock → wpList Tryz.prog ops Q rest (a.put o.dst v') w') : wpList Tryz.prog ops Q (o :: rest) a w := by
  obtain ⟨i0, hi, hz0, hz1, hz2⟩ := infos info_wt
  refine wpList_append_own w hgd s x 56 ho B 29 i0 _ 6 48 Tryz.underlying56 hi hz0 hz1 hz2 rfl (by decide) v l.length (wts l) hs hown ⟨b, 0, none⟩ 1 1 (wtC y) hx rfl ?_ (fun u hu => by simp [wtC] at hu; rcases hu with rfl | rfl | rfl | rfl | rfl | rfl <;> rfl) (by unfold maxLen; omega) (by omega) hB ?_
  · intro j u hu
    have := h0 j u hu
    rw [show ((⟨b, 0, none⟩ : Addr).add j) = ⟨b, j, none⟩ from by simp [Addr.add]; omega]
    exact this
  · intro v' w' h1 h2 _
    refine h v' w' ?_ (below_of_grown h2 hB fun k hk => (hown.lt k hk).1) h2
    unfold OwnW
    rw [List.length_append, wts_append]
    simpa [wts] using h1

theorem OwnW.shape {w : World} {B : Nat} {v : Value} {l : List Wt} (h : OwnW w B v l) (hn : l ≠ []) : ∃ g c, v = .slice (some ⟨g, 0, none⟩) l.length c ∧ B ≤ g ∧ g < w.heap.size ∧ l.length ≤ c ∧ c ≤ 9223372036854775807 := by
  rcases h.2 with ⟨_, h'⟩ | ⟨g, c, cur, h', hb, hg, h1, h2, _⟩
  · exact absurd (List.eq_nil_of_length_eq_zero h') hn
  · exact ⟨g, c, h', hb, (Array.getElem?_eq_some_iff.1 hg).1, h1, h2⟩

theorem OwnW.at {w : World} {B : Nat} {v : Value} {l : List Wt} (h : OwnW w B v l) (hn : l ≠ []) : ∃ p c, v = .slice p l.length c ∧ WsAt w ⟨p, l.length, c, l⟩ := by
  obtain ⟨g, c, rfl, _, h2, h3, h4⟩ := h.shape hn
  refine ⟨_, c, rfl, rfl, h3, h4, fun _ => ⟨g, 0, rfl, h2, fun i hi j u hu => ?_⟩⟩
  dsimp only at *
  have hj : j < 6 := by
    have := (List.getElem?_eq_some_iff.1 hu).1
    simpa [wtC] using this
  unfold OwnW at h
  rw [Nat.zero_add, h.cellAt (i * 6 + j) (by omega), wts_get l i hi j hj]
  exact hu

end Go.Proofs.YteagdcgmmdiakaaGreat

namespace Go.Proofs.YteagdcgmmdiakaaGreat
set_option linter.unusedSimpArgs false
set_option linter.unusedVariables false
open Go.RowKit

/-- What a load holds. -/
structure Ld where
  ws : List Wt
  sur : Rg
  shi : Rg
  deriving DecidableEq
def ld0 : Ld := ⟨[], ⟨0, 0⟩, ⟨0, 0⟩⟩
def addR (a b : Rg) : Rg := ⟨a.lo + b.lo, a.hi + b.hi⟩

def dupH (hs : List Ho) (i : Nat) : Bool := (List.range i).any fun k => (hv hs k).id == (hv hs i).id
def dupT (ts : List Tk) (i : Nat) : Bool := (List.range i).any fun k => (tv ts k).id == (tv ts i).id
theorem dupH_iff (hs : List Ho) (i : Nat) : dupH hs i = true ↔ ∃ k, k < i ∧ (hv hs k).id = (hv hs i).id := by
  unfold dupH
  simp
theorem dupT_iff (ts : List Tk) (i : Nat) : dupT ts i = true ↔ ∃ k, k < i ∧ (tv ts k).id = (tv ts i).id := by
  unfold dupT
  simp

def hStep (hs : List Ho) (fs : List Fi) (i : Nat) (s : Int × Ld) : Int × Ld :=
  if s.1 ≠ 0 then s
  else if dupH hs i then (20, ld0)
  else if fillErr (hv hs i) (fiv fs i) ≠ 0 then (fillErr (hv hs i) (fiv fs i), ld0)
  else (0, ⟨if (fiv fs i).state = 0 then s.2.ws else s.2.ws ++ [wtE (hv hs i) (fiv fs i)], s.2.sur, addR s.2.shi (heelE (hv hs i) (fiv fs i))⟩)
def hRun (hs : List Ho) (fs : List Fi) : Nat → Int × Ld
  | 0 => (0, ld0)
  | i + 1 => hStep hs fs i (hRun hs fs i)
def tStep (ts : List Tk) (ls : List Lv) (i : Nat) (s : Int × Ld) : Int × Ld :=
  if s.1 ≠ 0 then s
  else if dupT ts i then (21, ld0)
  else if levelErr (tv ts i) (lv ls i) ≠ 0 then (levelErr (tv ts i) (lv ls i), ld0)
  else (0, ⟨s.2.ws ++ [balE (tv ts i) (lv ls i)], addR s.2.sur (srfE (tv ts i) (lv ls i)), s.2.shi⟩)
def tRun (ts : List Tk) (ls : List Lv) (s : Int × Ld) : Nat → Int × Ld
  | 0 => s
  | i + 1 => tStep ts ls i (tRun ts ls s i)
def loadE (hs : List Ho) (fs : List Fi) (ts : List Tk) (ls : List Lv) : Int × Ld :=
  if 9 < hs.length ∨ 9 < ts.length then (2, ld0)
  else if hs.length ≠ fs.length ∨ ts.length ≠ ls.length then (1, ld0)
  else tRun ts ls (hRun hs fs hs.length) ts.length

theorem hRun_err {hs : List Ho} {fs : List Fi} {i : Nat} (h : (hRun hs fs i).1 ≠ 0) : ∀ j, i ≤ j → hRun hs fs j = hRun hs fs i := by
  intro j hj
  induction j with
  | zero => rw [show i = 0 by omega]
  | succ j ih =>
    by_cases hi : i = j + 1
    · rw [hi]
    · have e := ih (by omega)
      show hStep hs fs j (hRun hs fs j) = _
      rw [e]
      unfold hStep
      rw [if_pos h]
theorem tRun_err {ts : List Tk} {ls : List Lv} {s : Int × Ld} {i : Nat} (h : (tRun ts ls s i).1 ≠ 0) : ∀ j, i ≤ j → tRun ts ls s j = tRun ts ls s i := by
  intro j hj
  induction j with
  | zero => rw [show i = 0 by omega]
  | succ j ih =>
    by_cases hi : i = j + 1
    · rw [hi]
    · have e := ih (by omega)
      show tStep ts ls j (tRun ts ls s j) = _
      rw [e]
      unfold tStep
      rw [if_pos h]
/-- The runs hold at most so many weights. -/
theorem hRun_len (hs : List Ho) (fs : List Fi) : ∀ i, (hRun hs fs i).2.ws.length ≤ i
  | 0 => Nat.le_refl 0
  | i + 1 => by
    have ih := hRun_len hs fs i
    show (hStep hs fs i (hRun hs fs i)).2.ws.length ≤ _
    unfold hStep
    split
    · omega
    split
    · simp [ld0]
    split
    · simp [ld0]
    · dsimp only
      split
      · omega
      · simp; omega
theorem tRun_len (ts : List Tk) (ls : List Lv) (s : Int × Ld) : ∀ i, (tRun ts ls s i).2.ws.length ≤ s.2.ws.length + i
  | 0 => Nat.le_refl _
  | i + 1 => by
    have ih := tRun_len ts ls s i
    show (tStep ts ls i (tRun ts ls s i)).2.ws.length ≤ _
    unfold tStep
    split
    · omega
    split
    · simp [ld0]
    split
    · simp [ld0]
    · simp; omega

end Go.Proofs.YteagdcgmmdiakaaGreat

namespace Go.Proofs.YteagdcgmmdiakaaGreat
set_option linter.unusedSimpArgs false
set_option linter.unusedVariables false
open Go.RowKit

theorem hRun_next {hs : List Ho} {fs : List Fi} {k : Nat} (h0 : (hRun hs fs k).1 = 0) (hd : dupH hs k = false) (he : fillErr (hv hs k) (fiv fs k) = 0) :
    hRun hs fs (k + 1) = (0, ⟨if (fiv fs k).state = 0 then (hRun hs fs k).2.ws else (hRun hs fs k).2.ws ++ [wtE (hv hs k) (fiv fs k)], (hRun hs fs k).2.sur, addR (hRun hs fs k).2.shi (heelE (hv hs k) (fiv fs k))⟩) := by
  show hStep hs fs k (hRun hs fs k) = _
  unfold hStep
  rw [if_neg (by omega), if_neg (by rw [hd]; decide), if_neg (by omega)]
theorem hRun_dup {hs : List Ho} {fs : List Fi} {k : Nat} (h0 : (hRun hs fs k).1 = 0) (hd : dupH hs k = true) : hRun hs fs (k + 1) = (20, ld0) := by
  show hStep hs fs k (hRun hs fs k) = _
  unfold hStep
  rw [if_neg (by omega), if_pos hd]
theorem hRun_bad {hs : List Ho} {fs : List Fi} {k : Nat} (h0 : (hRun hs fs k).1 = 0) (hd : dupH hs k = false) (he : fillErr (hv hs k) (fiv fs k) ≠ 0) : hRun hs fs (k + 1) = (fillErr (hv hs k) (fiv fs k), ld0) := by
  show hStep hs fs k (hRun hs fs k) = _
  unfold hStep
  rw [if_neg (by omega), if_neg (by rw [hd]; decide), if_pos he]
theorem tRun_next {ts : List Tk} {ls : List Lv} {s : Int × Ld} {k : Nat} (h0 : (tRun ts ls s k).1 = 0) (hd : dupT ts k = false) (he : levelErr (tv ts k) (lv ls k) = 0) :
    tRun ts ls s (k + 1) = (0, ⟨(tRun ts ls s k).2.ws ++ [balE (tv ts k) (lv ls k)], addR (tRun ts ls s k).2.sur (srfE (tv ts k) (lv ls k)), (tRun ts ls s k).2.shi⟩) := by
  show tStep ts ls k (tRun ts ls s k) = _
  unfold tStep
  rw [if_neg (by omega), if_neg (by rw [hd]; decide), if_neg (by omega)]
theorem tRun_dup {ts : List Tk} {ls : List Lv} {s : Int × Ld} {k : Nat} (h0 : (tRun ts ls s k).1 = 0) (hd : dupT ts k = true) : tRun ts ls s (k + 1) = (21, ld0) := by
  show tStep ts ls k (tRun ts ls s k) = _
  unfold tStep
  rw [if_neg (by omega), if_pos hd]
theorem tRun_bad {ts : List Tk} {ls : List Lv} {s : Int × Ld} {k : Nat} (h0 : (tRun ts ls s k).1 = 0) (hd : dupT ts k = false) (he : levelErr (tv ts k) (lv ls k) ≠ 0) : tRun ts ls s (k + 1) = (levelErr (tv ts k) (lv ls k), ld0) := by
  show tStep ts ls k (tRun ts ls s k) = _
  unfold tStep
  rw [if_neg (by omega), if_neg (by rw [hd]; decide), if_pos he]

section
variable {hs : List Ho} {fs : List Fi} {ts : List Tk} {ls : List Lv}
theorem loadE_all (h1 : hs.length ≤ 9) (h2 : ts.length ≤ 9) (h3 : hs.length = fs.length) (h4 : ts.length = ls.length) : loadE hs fs ts ls = tRun ts ls (hRun hs fs hs.length) ts.length := by
  unfold loadE
  rw [if_neg (by omega), if_neg (by omega)]
theorem loadE_h (h1 : hs.length ≤ 9) (h2 : ts.length ≤ 9) (h3 : hs.length = fs.length) (h4 : ts.length = ls.length) {k : Nat} (hk : k < hs.length) (e : (hRun hs fs (k + 1)).1 ≠ 0) : loadE hs fs ts ls = hRun hs fs (k + 1) := by
  rw [loadE_all h1 h2 h3 h4, hRun_err e hs.length hk]
  exact tRun_err (i := 0) e ts.length (Nat.zero_le _)
theorem loadE_t (h1 : hs.length ≤ 9) (h2 : ts.length ≤ 9) (h3 : hs.length = fs.length) (h4 : ts.length = ls.length) {k : Nat} (hk : k < ts.length) (e : (tRun ts ls (hRun hs fs hs.length) (k + 1)).1 ≠ 0) : loadE hs fs ts ls = tRun ts ls (hRun hs fs hs.length) (k + 1) := by
  rw [loadE_all h1 h2 h3 h4]
  exact tRun_err e _ hk
end

theorem weigh_ld {v den : Rg} (hv : RgIn v 0 1000000000) (hd : RgIn den 0 2000) : RgIn (weighS v den) 0 2000000000 := by
  obtain ⟨a1, a2, a3⟩ := hv
  obtain ⟨b1, b2, b3⟩ := hd
  have m1 := Int.mul_nonneg a1 b1
  have m2 : v.lo * den.lo ≤ v.hi * den.hi := Int.mul_le_mul a2 b2 b1 (by omega)
  have m3 : v.hi * den.hi ≤ 1000000000 * 2000 := Int.mul_le_mul a3 b3 (by omega) (by omega)
  unfold weighS
  exact ⟨by dsimp only; omega, by dsimp only; omega, by dsimp only; omega⟩

theorem heelE_in (h : Ho) (f : Fi) : RgIn (heelE h f) 0 2000000000 := by
  unfold heelE
  split
  · rename_i e
    obtain ⟨h0, h1⟩ := fill_ok e
    exact weigh_ld (momS_in h0 f) (den_in h1)
  · exact ⟨Int.le_refl _, Int.le_refl _, by decide⟩
theorem srfE_in (t : Tk) (l : Lv) : RgIn (srfE t l) 0 2000000000 := by
  unfold srfE
  split
  · rename_i e
    obtain ⟨h0, h1⟩ := level_ok e
    have k := weigh_ld (overE_pos h0.tabs.2.1.1 l.snd) (lden_in h1)
    unfold srfS
    split
    · exact ⟨Int.le_refl _, Int.le_refl _, by decide⟩
    · split
      · exact ⟨Int.le_refl _, by have := k.a; have := k.b; dsimp only; omega, k.c⟩
      · exact k
  · exact ⟨Int.le_refl _, Int.le_refl _, by decide⟩

/-- The sums of so many steps. -/
def Small (k : Nat) (r : Rg) : Prop := (0 ≤ r.lo ∧ r.lo ≤ 2000000000 * (k : Int)) ∧ (0 ≤ r.hi ∧ r.hi ≤ 2000000000 * (k : Int))
theorem Small.zero : Small 0 ⟨0, 0⟩ := ⟨⟨by decide, by decide⟩, by decide, by decide⟩
theorem Small.mono {k j : Nat} {r : Rg} (h : Small k r) (hk : k ≤ j) : Small j r := by
  unfold Small at *
  omega
theorem Small.add {k : Nat} {r s : Rg} (h : Small k r) (hs : RgIn s 0 2000000000) : Small (k + 1) (addR r s) := by
  obtain ⟨a, b, c⟩ := hs
  unfold Small addR at *
  dsimp only
  omega
theorem hRun_small (hs : List Ho) (fs : List Fi) : ∀ k, Small k (hRun hs fs k).2.sur ∧ Small k (hRun hs fs k).2.shi
  | 0 => ⟨Small.zero, Small.zero⟩
  | k + 1 => by
    have ih := hRun_small hs fs k
    show Small (k + 1) (hStep hs fs k (hRun hs fs k)).2.sur ∧ Small (k + 1) (hStep hs fs k (hRun hs fs k)).2.shi
    unfold hStep
    split
    · exact ⟨ih.1.mono (by omega), ih.2.mono (by omega)⟩
    split
    · exact ⟨Small.zero.mono (by omega), Small.zero.mono (by omega)⟩
    split
    · exact ⟨Small.zero.mono (by omega), Small.zero.mono (by omega)⟩
    · exact ⟨ih.1.mono (by omega), ih.2.add (heelE_in _ _)⟩
theorem tRun_small (ts : List Tk) (ls : List Lv) {s : Int × Ld} {n : Nat} (h : Small n s.2.sur ∧ Small n s.2.shi) : ∀ k, Small (n + k) (tRun ts ls s k).2.sur ∧ Small (n + k) (tRun ts ls s k).2.shi
  | 0 => h
  | k + 1 => by
    have ih := tRun_small ts ls h k
    show Small (n + k + 1) (tStep ts ls k (tRun ts ls s k)).2.sur ∧ Small (n + k + 1) (tStep ts ls k (tRun ts ls s k)).2.shi
    unfold tStep
    split
    · exact ⟨ih.1.mono (by omega), ih.2.mono (by omega)⟩
    split
    · exact ⟨Small.zero.mono (by omega), Small.zero.mono (by omega)⟩
    split
    · exact ⟨Small.zero.mono (by omega), Small.zero.mono (by omega)⟩
    · exact ⟨ih.1.add (srfE_in _ _), ih.2.mono (by omega)⟩

/-- The cells of an element. -/
theorem HsAt.cells {w : World} {s : Sl Ho} (h : HsAt w s) (hn : s.n ≠ 0) : ∃ b o, s.p = some ⟨b, o, none⟩ ∧ b < w.heap.size ∧ ∀ i, i < s.n →
    w.cell? ⟨b, o + i * 14, none⟩ = some (.int .i64 (hv s.xs i).id) ∧ w.cell? ⟨b, o + i * 14 + 1, none⟩ = some (.int .i64 (hv s.xs i).along.lo) ∧ w.cell? ⟨b, o + i * 14 + 2, none⟩ = some (.int .i64 (hv s.xs i).along.hi) ∧
    w.cell? ⟨b, o + i * 14 + 3, none⟩ = some (.slice (hv s.xs i).vol.p (hv s.xs i).vol.n (hv s.xs i).vol.c) ∧ w.cell? ⟨b, o + i * 14 + 4, none⟩ = some (.slice (hv s.xs i).mom.p (hv s.xs i).mom.n (hv s.xs i).mom.c) ∧ w.cell? ⟨b, o + i * 14 + 5, none⟩ = some (.slice (hv s.xs i).hei.p (hv s.xs i).hei.n (hv s.xs i).hei.c) ∧
    w.cell? ⟨b, o + i * 14 + 6, none⟩ = some (.int .i64 (hv s.xs i).tri.lo) ∧ w.cell? ⟨b, o + i * 14 + 7, none⟩ = some (.int .i64 (hv s.xs i).tri.hi) ∧ w.cell? ⟨b, o + i * 14 + 8, none⟩ = some (.int .i64 (hv s.xs i).unt.lo) ∧ w.cell? ⟨b, o + i * 14 + 9, none⟩ = some (.int .i64 (hv s.xs i).unt.hi) ∧
    w.cell? ⟨b, o + i * 14 + 10, none⟩ = some (.int .i64 (hv s.xs i).v0.lo) ∧ w.cell? ⟨b, o + i * 14 + 11, none⟩ = some (.int .i64 (hv s.xs i).v0.hi) ∧ w.cell? ⟨b, o + i * 14 + 12, none⟩ = some (.int .i64 (hv s.xs i).h0.lo) ∧ w.cell? ⟨b, o + i * 14 + 13, none⟩ = some (.int .i64 (hv s.xs i).h0.hi) := by
  obtain ⟨b, o, e, hb, hc⟩ := h.2.1.2.2 hn
  refine ⟨b, o, e, hb, fun i hi => ?_⟩
  have k := hc i hi
  exact ⟨k 0 _ rfl, k 1 _ rfl, k 2 _ rfl, k 3 _ rfl, k 4 _ rfl, k 5 _ rfl, k 6 _ rfl, k 7 _ rfl, k 8 _ rfl, k 9 _ rfl, k 10 _ rfl, k 11 _ rfl, k 12 _ rfl, k 13 _ rfl⟩
theorem FsAt.cells {w : World} {s : Sl Fi} (h : FsAt w s) (hn : s.n ≠ 0) : ∃ b o, s.p = some ⟨b, o, none⟩ ∧ b < w.heap.size ∧ ∀ i, i < s.n →
    w.cell? ⟨b, o + i * 6, none⟩ = some (.int .i64 (fiv s.xs i).hold) ∧ w.cell? ⟨b, o + i * 6 + 1, none⟩ = some (.int .i64 (fiv s.xs i).state) ∧ w.cell? ⟨b, o + i * 6 + 2, none⟩ = some (.int .i64 (fiv s.xs i).ull.lo) ∧
    w.cell? ⟨b, o + i * 6 + 3, none⟩ = some (.int .i64 (fiv s.xs i).ull.hi) ∧ w.cell? ⟨b, o + i * 6 + 4, none⟩ = some (.int .i64 (fiv s.xs i).den.lo) ∧ w.cell? ⟨b, o + i * 6 + 5, none⟩ = some (.int .i64 (fiv s.xs i).den.hi) := by
  obtain ⟨b, o, e, hb, hc⟩ := h.2.2.2 hn
  refine ⟨b, o, e, hb, fun i hi => ?_⟩
  have k := hc i hi
  exact ⟨k 0 _ rfl, k 1 _ rfl, k 2 _ rfl, k 3 _ rfl, k 4 _ rfl, k 5 _ rfl⟩
theorem TsAt.cells {w : World} {s : Sl Tk} (h : TsAt w s) (hn : s.n ≠ 0) : ∃ b o, s.p = some ⟨b, o, none⟩ ∧ b < w.heap.size ∧ ∀ i, i < s.n →
    w.cell? ⟨b, o + i * 6, none⟩ = some (.int .i64 (tv s.xs i).id) ∧ w.cell? ⟨b, o + i * 6 + 1, none⟩ = some (.int .i64 (tv s.xs i).along.lo) ∧ w.cell? ⟨b, o + i * 6 + 2, none⟩ = some (.int .i64 (tv s.xs i).along.hi) ∧
    w.cell? ⟨b, o + i * 6 + 3, none⟩ = some (.slice (tv s.xs i).vol.p (tv s.xs i).vol.n (tv s.xs i).vol.c) ∧ w.cell? ⟨b, o + i * 6 + 4, none⟩ = some (.slice (tv s.xs i).sur.p (tv s.xs i).sur.n (tv s.xs i).sur.c) ∧ w.cell? ⟨b, o + i * 6 + 5, none⟩ = some (.slice (tv s.xs i).hei.p (tv s.xs i).hei.n (tv s.xs i).hei.c) := by
  obtain ⟨b, o, e, hb, hc⟩ := h.2.1.2.2 hn
  refine ⟨b, o, e, hb, fun i hi => ?_⟩
  have k := hc i hi
  exact ⟨k 0 _ rfl, k 1 _ rfl, k 2 _ rfl, k 3 _ rfl, k 4 _ rfl, k 5 _ rfl⟩
theorem LsAt.cells {w : World} {s : Sl Lv} (h : LsAt w s) (hn : s.n ≠ 0) : ∃ b o, s.p = some ⟨b, o, none⟩ ∧ b < w.heap.size ∧ ∀ i, i < s.n →
    w.cell? ⟨b, o + i * 6, none⟩ = some (.int .i64 (lv s.xs i).tank) ∧ w.cell? ⟨b, o + i * 6 + 1, none⟩ = some (.bool (lv s.xs i).pressed) ∧ w.cell? ⟨b, o + i * 6 + 2, none⟩ = some (.int .i64 (lv s.xs i).snd.lo) ∧
    w.cell? ⟨b, o + i * 6 + 3, none⟩ = some (.int .i64 (lv s.xs i).snd.hi) ∧ w.cell? ⟨b, o + i * 6 + 4, none⟩ = some (.int .i64 (lv s.xs i).den.lo) ∧ w.cell? ⟨b, o + i * 6 + 5, none⟩ = some (.int .i64 (lv s.xs i).den.hi) := by
  obtain ⟨b, o, e, hb, hc⟩ := h.2.2.2 hn
  refine ⟨b, o, e, hb, fun i hi => ?_⟩
  have k := hc i hi
  exact ⟨k 0 _ rfl, k 1 _ rfl, k 2 _ rfl, k 3 _ rfl, k 4 _ rfl, k 5 _ rfl⟩
theorem WsAt.cells {w : World} {s : Sl Wt} (h : WsAt w s) (hn : s.n ≠ 0) : ∃ b o, s.p = some ⟨b, o, none⟩ ∧ b < w.heap.size ∧ ∀ i, i < s.n →
    w.cell? ⟨b, o + i * 6, none⟩ = some (.int .i64 (wv s.xs i).mass.lo) ∧ w.cell? ⟨b, o + i * 6 + 1, none⟩ = some (.int .i64 (wv s.xs i).mass.hi) ∧ w.cell? ⟨b, o + i * 6 + 2, none⟩ = some (.int .i64 (wv s.xs i).along.lo) ∧
    w.cell? ⟨b, o + i * 6 + 3, none⟩ = some (.int .i64 (wv s.xs i).along.hi) ∧ w.cell? ⟨b, o + i * 6 + 4, none⟩ = some (.int .i64 (wv s.xs i).high.lo) ∧ w.cell? ⟨b, o + i * 6 + 5, none⟩ = some (.int .i64 (wv s.xs i).high.hi) := by
  obtain ⟨b, o, e, hb, hc⟩ := h.2.2.2 hn
  refine ⟨b, o, e, hb, fun i hi => ?_⟩
  have k := hc i hi
  exact ⟨k 0 _ rfl, k 1 _ rfl, k 2 _ rfl, k 3 _ rfl, k 4 _ rfl, k 5 _ rfl⟩

theorem OwnW.alloc {w : World} {B : Nat} {v : Value} {l : List Wt} (h : OwnW w B v l) (o : Obj) : OwnW (w.alloc o) B v l := World.ownsRow.alloc h o
theorem OwnW.bel {w w' : World} {B B' : Nat} {v : Value} {l : List Wt} (h : OwnW w B v l) (hb : Below B' w w') (hv : ∀ k, v.ownBlock = some k → k < B') : OwnW w' B v l := by
  refine ⟨h.1, ?_⟩
  rcases h.2 with hn | ⟨g, cap, cur, rfl, hb', hgg, rest⟩
  · exact .inl hn
  · exact .inr ⟨g, cap, cur, rfl, hb', (hb.block g (hv g rfl)).trans hgg, rest⟩
theorem OwnW.same {w w' : World} {B : Nat} {v : Value} {l : List Wt} (h : OwnW w B v l) (hb : Below w.heap.size w w') : OwnW w' B v l := h.bel hb fun k hk => (World.ownsRow.lt h k hk).2
theorem OwnW.bw {w : World} {B : Nat} {v : Value} {l : List Wt} (h : OwnW w B v l) (x : Soft.BW w) : OwnW x.w B v l := h.same x.below
theorem OwnW.set {w : World} {B : Nat} {v : Value} {l : List Wt} (h : OwnW w B v l) {p : Addr} (hp : p.block < B) (u : Value) : OwnW (w.setCell p u) B v l := by
  refine ⟨h.1, ?_⟩
  rcases h.2 with hn | ⟨g, cap, cur, rfl, hb', hgg, rest⟩
  · exact .inl hn
  · exact .inr ⟨g, cap, cur, rfl, hb', (Below.heap_setCell w p u g (by omega)).trans hgg, rest⟩
theorem OwnW.row {w : World} {B : Nat} {v : Value} {l : List Wt} (h : OwnW w B v l) {X : Nat} (hp : X < B) (cs : Array Value) : OwnW (w.setRow X cs) B v l := by
  refine ⟨h.1, ?_⟩
  rcases h.2 with hn | ⟨g, cap, cur, rfl, hb', hgg, rest⟩
  · exact .inl hn
  · exact .inr ⟨g, cap, cur, rfl, hb', (setRow_other w X g cs (by omega)).trans hgg, rest⟩

/-- The cells of a load whose list of weights is v. -/
abbrev ldC (v : Value) (s : Ld) : Array Value := #[v, .int .i64 s.sur.lo, .int .i64 s.sur.hi, .int .i64 s.shi.lo, .int .i64 s.shi.hi]
/-- What the loops of a load carry: the result's block at o, the load's own one behind it, its weights from B on. -/
structure LdRel (w : World) (B : Nat) (wr : World) (v : Value) (s : Ld) : Prop where
  out : HasBlk wr (w.heap.size + 1) (ldC v s) 58
  own : OwnW wr B v s.ws
  res : HasBlk wr w.heap.size (ldC (.slice none 0 0) ld0) 58
  bel : Below w.heap.size w wr
  lb : w.heap.size + 2 ≤ B
  lt : B ≤ wr.heap.size
theorem LdRel.call {w wr W : World} {B : Nat} {v : Value} {s : Ld} (h : LdRel w B wr v s) (hb : Below wr.heap.size wr W) : LdRel w B W v s :=
  ⟨h.out.below hb, h.own.same hb, h.res.below hb, bel_step h.bel hb, h.lb, Nat.le_trans h.lt hb.size⟩
theorem LdRel.shi {w wr : World} {B : Nat} {v : Value} {s : Ld} (h : LdRel w B wr v s) (a b : Int) : LdRel w B ((wr.setCell ⟨w.heap.size + 1, 3, none⟩ (.int .i64 a)).setCell ⟨w.heap.size + 1, 4, none⟩ (.int .i64 b)) v ⟨s.ws, s.sur, ⟨a, b⟩⟩ :=
  ⟨(h.out.put 3 _).put 4 _, (h.own.set (by have := h.lb; dsimp only; omega) _).set (by have := h.lb; dsimp only; omega) _, (h.res.set_other (by simp) _).set_other (by simp) _, (h.bel.setCell (by simp) _).setCell (by simp) _, h.lb, by have := h.lt; simp; omega⟩
theorem LdRel.sur {w wr : World} {B : Nat} {v : Value} {s : Ld} (h : LdRel w B wr v s) (a b : Int) : LdRel w B ((wr.setCell ⟨w.heap.size + 1, 1, none⟩ (.int .i64 a)).setCell ⟨w.heap.size + 1, 2, none⟩ (.int .i64 b)) v ⟨s.ws, ⟨a, b⟩, s.shi⟩ :=
  ⟨(h.out.put 1 _).put 2 _, (h.own.set (by have := h.lb; dsimp only; omega) _).set (by have := h.lb; dsimp only; omega) _, (h.res.set_other (by simp) _).set_other (by simp) _, (h.bel.setCell (by simp) _).setCell (by simp) _, h.lb, by have := h.lt; simp; omega⟩
theorem LdRel.app {w wr W : World} {B : Nat} {v v' : Value} {s : Ld} {y : Wt} (h : LdRel w B wr v s) (ho : OwnW W B v' (s.ws ++ [y])) (hb : Below B wr W) : LdRel w B (W.setCell ⟨w.heap.size + 1, 0, none⟩ v') v' ⟨s.ws ++ [y], s.sur, s.shi⟩ := by
  have hB := h.lb
  refine ⟨HasBlk.put (c := ldC v s) ((hb.block _ (by omega)).trans h.out) 0 v', ho.set (by dsimp only; omega) _, HasBlk.set_other ((hb.block _ (by omega)).trans h.res) (by simp) _, ?_, hB, ?_⟩
  · exact (h.bel.trans (hb.mono (by omega))).setCell (by simp) _
  · have := h.lt; have := hb.size; simp; omega
/-- The weights that are handed back at the end. -/
theorem OwnW.at0 {w : World} {B : Nat} {v : Value} {l : List Wt} (h : OwnW w B v l) : ∃ p c, v = .slice p l.length c ∧ WsAt w ⟨p, l.length, c, l⟩ ∧ (p = none → c = 0) := by
  by_cases hn : l = []
  · obtain ⟨hl, hr⟩ := h
    rcases hr with ⟨e, _⟩ | ⟨g, c, cur, e, hb, hg, h1, h2, _⟩
    · exact ⟨none, 0, by rw [e, hn]; rfl, by rw [hn]; exact wsAt_nil _, fun _ => rfl⟩
    · exact ⟨_, c, e, ⟨rfl, h1, h2, fun hne => absurd (by rw [hn]; rfl) hne⟩, fun h => by cases h⟩
  · obtain ⟨p, c, e, ha⟩ := h.at hn
    refine ⟨p, c, e, ha, fun hp => ?_⟩
    obtain ⟨b, o, e2, _⟩ := ha.2.2.2 (fun h0 => hn (List.eq_nil_of_length_eq_zero h0))
    dsimp only at e2
    rw [hp] at e2
    cases e2

/-- A load as a function hands it back. -/
def LdPost (w : World) (E : Int × Ld) (e : Ending) (w' : World) : Prop :=
  ∃ (p : Option Addr) (c : Nat), e = .returned (.tuple #[.agg #[.slice p E.2.ws.length c, .int .i64 E.2.sur.lo, .int .i64 E.2.sur.hi, .int .i64 E.2.shi.lo, .int .i64 E.2.shi.hi], .int .i64 E.1]) ∧ WsAt w' ⟨p, E.2.ws.length, c, E.2.ws⟩ ∧ Below w.heap.size w w' ∧ (p = none → c = 0)
theorem loadPost_zero {w W : World} {E : Int × Ld} {er : Int} (hE : E = (er, ld0)) (hb : Below w.heap.size w W) : LdPost w E (.returned (.tuple #[.agg #[.slice none 0 0, .int .i64 0, .int .i64 0, .int .i64 0, .int .i64 0], .int .i64 er])) W := by
  subst hE
  exact ⟨none, 0, rfl, wsAt_nil _, hb, fun _ => rfl⟩
theorem loadPost_end {w W : World} {B : Nat} {v : Value} {E : Int × Ld} {s : Ld} (hE : E = (0, s)) (h : OwnW W B v s.ws) (hb : Below w.heap.size w W) : LdPost w E (.returned (.tuple #[.agg (ldC v s), .int .i64 0])) W := by
  subst hE
  obtain ⟨p, c, rfl, ha, hc⟩ := h.at0
  exact ⟨p, c, rfl, ha, hb, hc⟩

end Go.Proofs.YteagdcgmmdiakaaGreat

namespace Go.Proofs.YteagdcgmmdiakaaGreat
set_option linter.unusedSimpArgs false
set_option linter.unusedVariables false
open Go.ChangeShapes Go.WideShapes Go.ChangeAt Go.RowKit Go.Joins
set_option maxRecDepth 100000
set_option maxHeartbeats 1000000

section
variable {H : Type} {enc : TypeId × Value → H} {W : World} {base : Nat}

theorem cellsBool : Tryz.prog.cellsOf 4 = 1 := by kernel_rfl

theorem open_lev {fuel : Nat} {cs : List Value} {x : DataW H × List MemPlace} (hf : DataW.trod enc Tryz.prog W 0 (fun _ => true) true fuel 85 cs = some x) (hl : cs.length = 6) :
    ∃ q : Lv, cs = [.int .i64 (q).tank, .bool (q).pressed, .int .i64 ((q).snd).lo, .int .i64 ((q).snd).hi, .int .i64 ((q).den).lo, .int .i64 ((q).den).hi] := by
  obtain ⟨xs, n, _, hx, _, hlen, hg⟩ := DataW.trod_struct Tryz.underlying85 hf
  match cs, hl with
  | [c0, c1, c2, c3, c4, c5], _ =>
    match xs, hlen with
    | [y0, y1, y2, y3], _ =>
      have t0 := hg 0 _ rfl
      have t1 := hg 1 _ rfl
      have t2 := hg 2 _ rfl
      have t3 := hg 3 _ rfl
      simp [Value.cells, cellsInt, cellsRg, cellsTb, cellsBool] at t0 t1 t2 t3
      obtain ⟨i0, e0, _, _⟩ := DataW.trod_int Tryz.underlying3 t0
      obtain ⟨i1, e1, _⟩ := DataW.trod_bool Tryz.underlying4 t1
      obtain ⟨r2, e2⟩ := open_rng t2
      obtain ⟨r3, e3⟩ := open_rng t3
      simp at e0 e1 e2 e3
      obtain ⟨rfl, rfl⟩ := e2
      obtain ⟨rfl, rfl⟩ := e3
      subst e0 e1
      exact ⟨⟨i0, i1, r2, r3⟩, rfl⟩

theorem open_level {v : Value} {d : DataW H} {p : List MemPlace} (hv : Value.okWide Tryz.prog W .any base 85 v) (h : DataW.Trod enc Tryz.prog W 0 (fun _ => true) true 85 v d p) :
    ∃ q : Lv, v = .agg #[.int .i64 (q).tank, .bool (q).pressed, .int .i64 ((q).snd).lo, .int .i64 ((q).snd).hi, .int .i64 ((q).den).lo, .int .i64 ((q).den).hi] := by
  obtain ⟨cs, rfl, hsz⟩ := okWide_struct Tryz.underlying85 hv
  obtain ⟨fuel, hf⟩ := h
  rw [show Tryz.prog.cellsOf 85 = 6 by kernel_rfl] at hsz
  obtain ⟨l⟩ := cs
  obtain ⟨q, e⟩ := open_lev hf (by simpa [Value.cells] using hsz)
  exact ⟨q, by simp only [Value.cells] at e; rw [e]⟩

theorem open_range {v : Value} {d : DataW H} {p : List MemPlace} (hv : Value.okWide Tryz.prog W .any base 27 v) (h : DataW.Trod enc Tryz.prog W 0 (fun _ => true) true 27 v d p) :
    ∃ q : Rg, v = .agg #[.int .i64 (q).lo, .int .i64 (q).hi] := by
  obtain ⟨cs, rfl, hsz⟩ := okWide_struct Tryz.underlying27 hv
  obtain ⟨fuel, hf⟩ := h
  obtain ⟨l⟩ := cs
  obtain ⟨q, e⟩ := open_rng hf
  exact ⟨q, by simp only [Value.cells] at e; rw [e]⟩

end

end Go.Proofs.YteagdcgmmdiakaaGreat

namespace Go.Proofs.YteagdcgmmdiakaaGreat
set_option linter.unusedSimpArgs false
set_option linter.unusedVariables false
open Go.ChangeShapes Go.WideShapes Go.ChangeAt Go.RowKit Go.Joins
set_option maxRecDepth 100000
set_option maxHeartbeats 1000000

theorem weights_mem_all {H : Type} {P : Program} {e : TypeId} : ∀ {l : List (DataW H)} {d : DataW H}, d ∈ l → ∀ n ∈ d.weights P e, n ∈ DataW.weightsAll P e l
  | x :: l, d, h, n, hn => by
    simp only [DataW.weightsAll, List.mem_append]
    rcases List.mem_cons.1 h with rfl | h
    · exact .inl hn
    · exact .inr (weights_mem_all h n hn)

section
variable {H : Type} {enc : TypeId × Value → H} {W : World} {base : Nat}

theorem add_none (b off j : Nat) : (⟨b, off, none⟩ : Addr).add j = ⟨b, off + j, none⟩ := by
  unfold Addr.add
  split
  · next h => subst h; rfl
  · rfl

theorem open_rows {α : Type} [Inhabited α] {t e : TypeId} {sz : Nat} {fuel : Nat} {cs : List Value} {x : DataW H × List MemPlace} (ht : Tryz.prog.underlying t = some (.slice e)) (hc : Tryz.prog.cellsOf e = sz) (h1 : 1 ≤ sz) (C : α → List Value) (G : α → Prop)
    (hop : ∀ (n : Nat) (cs : List Value) (y : DataW H × List MemPlace), DataW.trod enc Tryz.prog W 0 (fun _ => true) true n e cs = some y → cs.length = sz → (∀ k ∈ y.1.weights Tryz.prog e, k ≤ reachBytes) → ∃ q : α, cs = C q ∧ G q)
    (hf : DataW.trod enc Tryz.prog W 0 (fun _ => true) true fuel t cs = some x) (hw : ∀ n ∈ x.1.weights Tryz.prog t, n ≤ reachBytes) :
    ∃ s : Sl α, cs = [.slice s.p s.n s.c] ∧ s.xs.length = s.n ∧ RowsAt W s.p s.n s.c sz (fun i => C (s.xs[i]?.getD default)) ∧ ∀ i, i < s.n → G (s.xs[i]?.getD default) := by
  rcases Go.Deep.open_slice ht hf with ⟨hcs, _⟩ | ⟨a, len, cap, m, n, D, Pl, hcs, _, hl, hm, hz, hx, hcell⟩
  · exact ⟨⟨none, 0, 0, []⟩, hcs, rfl, ⟨Nat.le_refl _, by dsimp only; omega, fun h => absurd rfl h⟩, fun i hi => absurd hi (Nat.not_lt_zero _)⟩
  · simp only [if_true] at hz
    subst hz
    subst hx
    have hwe : ∀ i, i < len → ∀ k ∈ (D i).weights Tryz.prog e, k ≤ reachBytes := fun i hi k hk => hw k (by
      simp only [DataW.weights, ht]
      refine List.mem_cons_of_mem _ (List.mem_append_left _ ?_)
      exact weights_mem_all (List.mem_map.2 ⟨i, List.mem_range.2 hi, rfl⟩) k hk)
    have hq : ∀ i, i < len → ∃ q : α, G q ∧ ∀ j v, (C q)[j]? = some v → W.cell? (a.add (i * sz + j)) = some v := by
      intro i hi
      obtain ⟨cs', k1, k2⟩ := hcell i (by omega)
      obtain ⟨_, hlen, hcc⟩ := World.cells?_some k1
      rw [hc] at hlen hcc
      obtain ⟨q, rfl, hg⟩ := hop _ _ _ k2 hlen (hwe i hi)
      refine ⟨q, hg, fun j v hv => ?_⟩
      have hj : j < sz := by
        have := (List.getElem?_eq_some_iff.1 hv).1
        omega
      have e0 := hcc j hj
      rw [Go.Deep.add_add] at e0
      rw [e0]
      exact hv
    obtain ⟨q, hq⟩ := Go.Deep.choose_lt hq
    have hget : ∀ i, i < len → ((List.range len).map q)[i]?.getD default = q i := fun i hi => by simp [hi, List.getD]
    refine ⟨⟨some a, len, m, (List.range len).map q⟩, hcs, by simp, ⟨hl, by have : maxLen = 9223372036854775807 := rfl; dsimp only; omega, fun hn => ?_⟩, fun i hi => ?_⟩
    · dsimp only at hn
      obtain ⟨b, off, spot⟩ := a
      obtain ⟨cs', k1, _⟩ := hcell 0 (by omega)
      obtain ⟨_, hlen, hcc⟩ := World.cells?_some k1
      rw [hc] at hlen hcc
      have e0 := hcc 0 (by omega)
      rw [Go.Deep.add_add, List.getElem?_eq_getElem (by omega)] at e0
      have hspot : spot = none := by simpa [Addr.add] using World.cell?_spot e0
      subst hspot
      refine ⟨b, off, rfl, World.block_lt_of_cell? _ _ (by rw [add_none] at e0; exact e0), fun i hi j v hv => ?_⟩
      dsimp only at hi hv
      rw [hget i hi] at hv
      have := (hq i hi).2 j v hv
      rw [add_none] at this
      rw [Nat.add_assoc]
      exact this
    · dsimp only at hi ⊢
      rw [hget i hi]
      exact (hq i hi).1

theorem open_ho {fuel : Nat} {l : List Value} {x : DataW H × List MemPlace} (hf : DataW.trod enc Tryz.prog W 0 (fun _ => true) true fuel 49 l = some x) (hsz : l.length = 14)
    (hw : ∀ n ∈ x.1.weights Tryz.prog 49, n ≤ reachBytes) : ∃ q : Ho, l = hoC q ∧ q.At W := by
  obtain ⟨xs, n, _, hx, _, hl, hg⟩ := DataW.trod_struct Tryz.underlying49 hf
  match l, hsz with
  | [c0, c1, c2, c3, c4, c5, c6, c7, c8, c9, c10, c11, c12, c13], _ =>
    match xs, hl with
    | [y0, y1, y2, y3, y4, y5, y6, y7, y8], _ =>
      subst hx
      have t0 := hg 0 _ rfl
      have t1 := hg 1 _ rfl
      have t2 := hg 2 _ rfl
      have t3 := hg 3 _ rfl
      have t4 := hg 4 _ rfl
      have t5 := hg 5 _ rfl
      have t6 := hg 6 _ rfl
      have t7 := hg 7 _ rfl
      have t8 := hg 8 _ rfl
      simp [Value.cells, cellsInt, cellsRg, cellsTb] at t0 t1 t2 t3 t4 t5 t6 t7 t8
      obtain ⟨i0, e0, _, _⟩ := DataW.trod_int Tryz.underlying3 t0
      obtain ⟨r1, e1⟩ := open_rng t1
      obtain ⟨s2, e2, a2⟩ := open_tab t2 (fun n hn => hw n (by simp only [DataW.weights, Tryz.underlying49]; exact DataW.weights_mem_each (j := 2) rfl rfl n hn))
      obtain ⟨s3, e3, a3⟩ := open_tab t3 (fun n hn => hw n (by simp only [DataW.weights, Tryz.underlying49]; exact DataW.weights_mem_each (j := 3) rfl rfl n hn))
      obtain ⟨s4, e4, a4⟩ := open_tab t4 (fun n hn => hw n (by simp only [DataW.weights, Tryz.underlying49]; exact DataW.weights_mem_each (j := 4) rfl rfl n hn))
      obtain ⟨r5, e5⟩ := open_rng t5
      obtain ⟨r6, e6⟩ := open_rng t6
      obtain ⟨r7, e7⟩ := open_rng t7
      obtain ⟨r8, e8⟩ := open_rng t8
      simp at e0 e1 e2 e3 e4 e5 e6 e7 e8
      obtain ⟨rfl, rfl⟩ := e1
      obtain ⟨rfl, rfl⟩ := e5
      obtain ⟨rfl, rfl⟩ := e6
      obtain ⟨rfl, rfl⟩ := e7
      obtain ⟨rfl, rfl⟩ := e8
      subst e0 e2 e3 e4
      exact ⟨⟨i0, r1, s2, s3, s4, r5, r6, r7, r8⟩, rfl, a2, a3, a4⟩

theorem open_tk {fuel : Nat} {l : List Value} {x : DataW H × List MemPlace} (hf : DataW.trod enc Tryz.prog W 0 (fun _ => true) true fuel 83 l = some x) (hsz : l.length = 6)
    (hw : ∀ n ∈ x.1.weights Tryz.prog 83, n ≤ reachBytes) : ∃ q : Tk, l = tkC q ∧ q.At W := by
  obtain ⟨xs, n, _, hx, _, hl, hg⟩ := DataW.trod_struct Tryz.underlying83 hf
  match l, hsz with
  | [c0, c1, c2, c3, c4, c5], _ =>
    match xs, hl with
    | [y0, y1, y2, y3, y4], _ =>
      subst hx
      have t0 := hg 0 _ rfl
      have t1 := hg 1 _ rfl
      have t2 := hg 2 _ rfl
      have t3 := hg 3 _ rfl
      have t4 := hg 4 _ rfl
      simp [Value.cells, cellsInt, cellsRg, cellsTb] at t0 t1 t2 t3 t4
      obtain ⟨i0, e0, _, _⟩ := DataW.trod_int Tryz.underlying3 t0
      obtain ⟨r1, e1⟩ := open_rng t1
      obtain ⟨s2, e2, a2⟩ := open_tab t2 (fun n hn => hw n (by simp only [DataW.weights, Tryz.underlying83]; exact DataW.weights_mem_each (j := 2) rfl rfl n hn))
      obtain ⟨s3, e3, a3⟩ := open_tab t3 (fun n hn => hw n (by simp only [DataW.weights, Tryz.underlying83]; exact DataW.weights_mem_each (j := 3) rfl rfl n hn))
      obtain ⟨s4, e4, a4⟩ := open_tab t4 (fun n hn => hw n (by simp only [DataW.weights, Tryz.underlying83]; exact DataW.weights_mem_each (j := 4) rfl rfl n hn))
      simp at e0 e1 e2 e3 e4
      obtain ⟨rfl, rfl⟩ := e1
      subst e0 e2 e3 e4
      exact ⟨⟨i0, r1, s2, s3, s4⟩, rfl, a2, a3, a4⟩

theorem open_fi {fuel : Nat} {l : List Value} {x : DataW H × List MemPlace} (hf : DataW.trod enc Tryz.prog W 0 (fun _ => true) true fuel 44 l = some x) (hsz : l.length = 6) : ∃ q : Fi, l = fiC q := by
  obtain ⟨xs, n, _, hx, _, hl, hg⟩ := DataW.trod_struct Tryz.underlying44 hf
  match l, hsz with
  | [c0, c1, c2, c3, c4, c5], _ =>
    match xs, hl with
    | [y0, y1, y2, y3], _ =>
      have t0 := hg 0 _ rfl
      have t1 := hg 1 _ rfl
      have t2 := hg 2 _ rfl
      have t3 := hg 3 _ rfl
      simp [Value.cells, cellsInt, cellsRg] at t0 t1 t2 t3
      obtain ⟨i0, e0, _, _⟩ := DataW.trod_int Tryz.underlying3 t0
      obtain ⟨i1, e1, _, _⟩ := DataW.trod_int Tryz.underlying3 t1
      obtain ⟨r2, e2⟩ := open_rng t2
      obtain ⟨r3, e3⟩ := open_rng t3
      simp at e0 e1 e2 e3
      obtain ⟨rfl, rfl⟩ := e2
      obtain ⟨rfl, rfl⟩ := e3
      subst e0 e1
      exact ⟨⟨i0, i1, r2, r3⟩, rfl⟩

theorem open_hs {fuel : Nat} {cs : List Value} {x : DataW H × List MemPlace} (hf : DataW.trod enc Tryz.prog W 0 (fun _ => true) true fuel 32 cs = some x) (hw : ∀ n ∈ x.1.weights Tryz.prog 32, n ≤ reachBytes) :
    ∃ s : Sl Ho, cs = [.slice s.p s.n s.c] ∧ HsAt W s :=
  open_rows Tryz.underlying32 (by kernel_rfl : Tryz.prog.cellsOf 49 = 14) (by decide) hoC (fun q => q.At W) (fun n cs y h1 h2 h3 => open_ho h1 h2 h3) hf hw
theorem open_ts {fuel : Nat} {cs : List Value} {x : DataW H × List MemPlace} (hf : DataW.trod enc Tryz.prog W 0 (fun _ => true) true fuel 34 cs = some x) (hw : ∀ n ∈ x.1.weights Tryz.prog 34, n ≤ reachBytes) :
    ∃ s : Sl Tk, cs = [.slice s.p s.n s.c] ∧ TsAt W s :=
  open_rows Tryz.underlying34 (by kernel_rfl : Tryz.prog.cellsOf 83 = 6) (by decide) tkC (fun q => q.At W) (fun n cs y h1 h2 h3 => open_tk h1 h2 h3) hf hw
theorem open_fs {fuel : Nat} {cs : List Value} {x : DataW H × List MemPlace} (hf : DataW.trod enc Tryz.prog W 0 (fun _ => true) true fuel 33 cs = some x) (hw : ∀ n ∈ x.1.weights Tryz.prog 33, n ≤ reachBytes) :
    ∃ s : Sl Fi, cs = [.slice s.p s.n s.c] ∧ FsAt W s := by
  obtain ⟨s, h1, h2, h3, _⟩ := open_rows Tryz.underlying33 (by kernel_rfl : Tryz.prog.cellsOf 44 = 6) (by decide) fiC (fun _ => True) (fun n cs y h1 h2 h3 => (open_fi h1 h2).imp fun q e => ⟨e, trivial⟩) hf hw
  exact ⟨s, h1, h2, h3⟩
theorem open_ls {fuel : Nat} {cs : List Value} {x : DataW H × List MemPlace} (hf : DataW.trod enc Tryz.prog W 0 (fun _ => true) true fuel 35 cs = some x) (hw : ∀ n ∈ x.1.weights Tryz.prog 35, n ≤ reachBytes) :
    ∃ s : Sl Lv, cs = [.slice s.p s.n s.c] ∧ LsAt W s := by
  obtain ⟨s, h1, h2, h3, _⟩ := open_rows Tryz.underlying35 (by kernel_rfl : Tryz.prog.cellsOf 85 = 6) (by decide) lvC (fun _ => True) (fun n cs y h1 h2 h3 => (open_lev h1 h2).imp fun q e => ⟨e, trivial⟩) hf hw
  exact ⟨s, h1, h2, h3⟩


end

end Go.Proofs.YteagdcgmmdiakaaGreat

namespace Go.Soft
set_option linter.unusedSimpArgs false
set_option linter.unusedVariables false
open Go.RowKit

section
variable {P : Program} {ops : Array Oper} {Q : Exit → Act → World → Prop}

/-- One operation, in the world that is there: it yields a value, or lays what is new, or calls what leaves all as it was. -/
def stepC (P : Program) (o : Oper) (K : Act → World → Prop) (a : Act) (w : World) : Result Next → Prop
  | .ok (.value v) w' => Below w.heap.size w w' ∧ K (a.put o.dst v) w'
  | .ok .skip w' => Below w.heap.size w w' ∧ K (a.put o.dst undef) w'
  | .ok (.enter f args) w' => w' = w ∧ Calls P f args w (fun e w'' => ∃ u, e = .returned u ∧ Below w.heap.size w w'' ∧ K (a.put o.dst u) w'')
  | _ => False

theorem stepC_mono {o : Oper} {K K' : Act → World → Prop} {a a' : Act} {w : World} {r : Result Next} (hm : ∀ v w', Below w.heap.size w w' → K (a.put o.dst v) w' → K' (a'.put o.dst v) w') (h : stepC P o K a w r) : stepC P o K' a' w r := by
  cases r with
  | ok n w' =>
    cases n <;> simp only [stepC] at h ⊢
    case value v => exact ⟨h.1, hm _ _ h.1 h.2⟩
    case skip => exact ⟨h.1, hm _ _ h.1 h.2⟩
    case enter f args => exact ⟨h.1, h.2.mono fun e w'' ⟨u, he, hb, hk⟩ => ⟨u, he, hb, hm _ _ hb hk⟩⟩
  | halt x w' => exact h

def anyC (P : Program) (ops : Array Oper) (C : World → Prop) (ts : List Nat) (Ke : Act → World → Prop) : Nat → Array Bool → Act → World → Prop
  | 0, listed, a, w => C w ∧ seqT ops ts listed = true ∧ Ke a w
  | f + 1, listed, a, w => C w ∧ Region.ready .any ops listed ≠ [] ∧ ∀ i ∈ Region.ready .any ops listed, ∃ o, ops[i]? = some o ∧
      if Region.wanted o (yielded ops a.tmps) then stepC P o (anyC P ops C ts Ke f (listed.setIfInBounds i true)) a w ((execOp a.eval o).run P w) else anyC P ops C ts Ke f (listed.setIfInBounds i true) (a.put o.dst undef) w

variable {C : World → Prop} {ts : List Nat} {Ke : Act → World → Prop}

theorem anyC_C : ∀ {f : Nat} {listed : Array Bool} {a : Act} {w : World}, anyC P ops C ts Ke f listed a w → C w
  | 0, _, _, _, h => h.1
  | _ + 1, _, _, _, h => h.1

theorem anyC_post {Ke' : Act → World → Prop} (hk : ∀ a w, C w → Ke a w → Ke' a w) : ∀ (f : Nat) (listed : Array Bool) (a : Act) (w : World), anyC P ops C ts Ke f listed a w → anyC P ops C ts Ke' f listed a w
  | 0, _, a, w, h => ⟨h.1, h.2.1, hk a w h.1 h.2.2⟩
  | f + 1, _, a, w, h => ⟨h.1, h.2.1, fun i hi => by
    obtain ⟨o, ho, h'⟩ := h.2.2 i hi
    refine ⟨o, ho, ?_⟩
    by_cases hw : Region.wanted o (yielded ops a.tmps) = true
    · rw [if_pos hw] at h' ⊢
      exact stepC_mono (fun u w' _ hK => anyC_post hk f _ _ _ hK) h'
    · rw [if_neg hw] at h' ⊢
      exact anyC_post hk f _ _ _ h'⟩

/-- What an operation that only reads yields, whatever the world. -/
def fixedC (P : Program) (ops : Array Oper) (C : World → Prop) (o : Oper) (v : Value) (a : Act) : Prop :=
  (Region.wanted o (yielded ops a.tmps) = true ∧ ∀ w, C w → upon0 w v ((execOp a.eval o).run P w)) ∨ (Region.wanted o (yielded ops a.tmps) = false ∧ v = undef)

theorem fixedC_put {o : Oper} {v : Value} {a : Act} {d : Option Tmp} {u : Value} (hs : ∀ cs b, o.op ≠ .select cs b) (h : ∀ t, d = some t → t ∉ o.looksAt ops) : fixedC P ops C o v (a.put d u) ↔ fixedC P ops C o v a := by
  unfold fixedC
  rw [execOp_put o hs a d u h, wanted_put o a d u h]

theorem fixedC_run {o : Oper} {v : Value} {a : Act} {w : World} {K : Act → World → Prop} (h : fixedC P ops C o v a) (hC : C w) (hK : K (a.put o.dst v) w) :
    if Region.wanted o (yielded ops a.tmps) then stepC P o K a w ((execOp a.eval o).run P w) else K (a.put o.dst undef) w := by
  rcases h with ⟨hw, hv⟩ | ⟨hw, hv⟩
  · rw [if_pos hw]
    have h3 := hv w hC
    generalize (execOp a.eval o).run P w = r at *
    cases r with
    | ok n w' =>
      cases n <;> simp only [upon0] at h3 <;> simp only [stepC]
      case value u => obtain ⟨e1, e2⟩ := h3; rw [e1, e2]; exact ⟨Below.refl _ _, hK⟩
      case skip => obtain ⟨e1, e2⟩ := h3; rw [e1, ← e2]; exact ⟨Below.refl _ _, hK⟩
    | halt x w' => simp only [upon0] at h3
  · rw [if_neg (by simp [hw]), ← hv]; exact hK

theorem firstC (hCl : ∀ w w', C w → Below w.heap.size w w' → C w') {pre : List Nat} (htl : tailOk ops pre ts = true) {i : Nat} {oi : Oper} (hi : ops[i]? = some oi) (hsel : ∀ (j : Nat) (o : Oper) cs b, ops[j]? = some o → o.op ≠ .select cs b) (hip : i ∈ pre) (v : Value) :
    ∀ (f : Nat) (listed : Array Bool) (a : Act) (w : World),
      (∀ j oj, ops[j]? = some oj → j ≠ i → listed.getD j true = false → (∀ e ∈ oj.after, Region.binds .any e = true → e.on ≠ i) → oi.apart ops oj = true) →
      Closed ops listed → i ∈ Region.ready .any ops listed → fixedC P ops C oi v a →
      anyC P ops C ts Ke f (listed.setIfInBounds i true) (a.put oi.dst v) w → anyC P ops C ts Ke (f + 1) listed a w := by
  intro f
  induction f with
  | zero =>
    intro listed a w _ hcl hr hy H
    refine ⟨anyC_C H, fun h => (by rw [h] at hr; cases hr), fun j hj => ?_⟩
    by_cases hji : j = i
    · subst hji; exact ⟨oi, hi, fixedC_run hy (anyC_C H) H⟩
    · exfalso
      exact tail_unready htl hcl hip (getD_ff (mem_ready.1 hr).1) j (seqT_ready H.2.1 (ready_mono hj hji)) hj
  | succ f ih =>
    intro listed a w hfree hcl hr hy H
    refine ⟨anyC_C H, fun h => (by rw [h] at hr; cases hr), fun j hj => ?_⟩
    by_cases hji : j = i
    · subst hji; exact ⟨oi, hi, fixedC_run hy (anyC_C H) H⟩
    · obtain ⟨hjun, oj, hoj, hall⟩ := mem_ready.1 hj
      have hnot : ∀ e ∈ oj.after, Region.binds .any e = true → e.on ≠ i := fun e he hb heq => by
        have h1 := hall e he hb
        rw [heq, getD_ff (mem_ready.1 hr).1] at h1
        cases h1
      obtain ⟨a1, a2, a3⟩ := Oper.apart_spec (hfree j oj hoj hji hjun hnot)
      have hj' := ready_mono hj hji
      obtain ⟨o', ho', h'⟩ := H.2.2 j hj'
      obtain rfl : o' = oj := Option.some.inj (ho'.symm.trans hoj)
      have step : ∀ u w', C w' → anyC P ops C ts Ke f ((listed.setIfInBounds i true).setIfInBounds j true) ((a.put oi.dst v).put o'.dst u) w' → anyC P ops C ts Ke (f + 1) (listed.setIfInBounds j true) (a.put o'.dst u) w' := fun u w' hC hK => by
        refine ih (listed.setIfInBounds j true) _ w' (fun k ok hk hki hun hno => ?_) (hcl.set hj) (ready_mono hr (Ne.symm hji)) ((fixedC_put (fun cs b => hsel i _ cs b hi) a3).2 hy) ?_
        · refine hfree k ok hk hki ?_ hno
          by_cases hjk : j = k
          · subst hjk; exact hjun
          · rw [getD_set_ne true hjk] at hun; exact hun
        · rw [Array.setIfInBounds_comm _ _ hji, ← Act.put_comm a _ _ a2]
          exact hK
      refine ⟨o', hoj, ?_⟩
      rw [wanted_put o' a oi.dst v a1, execOp_put o' (fun cs b => hsel j _ cs b hoj) a oi.dst v a1] at h'
      by_cases hw : Region.wanted o' (yielded ops a.tmps) = true
      · rw [if_pos hw] at h' ⊢
        refine stepC_mono (fun u w' hb hK => ?_) h'
        exact step u w' (hCl _ _ (anyC_C H) hb) hK
      · rw [if_neg hw] at h' ⊢
        exact step undef w (anyC_C H) h'

/-- One behind the other; those marked only read: they yield the same whatever the world. -/
def wpMix (P : Program) (ops : Array Oper) (C : World → Prop) (Ke : Act → World → Prop) : List (Bool × Oper) → Act → World → Prop
  | [], a, w => Ke a w
  | (true, o) :: rest, a, w => if Region.wanted o (yielded ops a.tmps) then ∃ v, (∀ w', C w' → upon0 w' v ((execOp a.eval o).run P w')) ∧ wpMix P ops C Ke rest (a.put o.dst v) w else wpMix P ops C Ke rest (a.put o.dst undef) w
  | (false, o) :: rest, a, w => if Region.wanted o (yielded ops a.tmps) then stepC P o (wpMix P ops C Ke rest) a w ((execOp a.eval o).run P w) else wpMix P ops C Ke rest (a.put o.dst undef) w

theorem mix_nil {a : Act} {w : World} (h : Ke a w) : wpMix P ops C Ke [] a w := h
theorem mix_q {a : Act} {w : World} {o : Oper} {rest : List (Bool × Oper)}
    (h : ∀ K : Act → Prop, (∀ a, wpMix P ops C Ke rest a w → K a) → if Region.wanted o (yielded ops a.tmps) then ∃ v, (∀ w', C w' → upon0 w' v ((execOp a.eval o).run P w')) ∧ K (a.put o.dst v) else K (a.put o.dst undef)) : wpMix P ops C Ke ((true, o) :: rest) a w :=
  h _ fun _ h => h
theorem mix_c {a : Act} {w : World} {o : Oper} {rest : List (Bool × Oper)}
    (h : ∀ K : Act → World → Prop, (∀ a w, wpMix P ops C Ke rest a w → K a w) → if Region.wanted o (yielded ops a.tmps) then stepC P o K a w ((execOp a.eval o).run P w) else K (a.put o.dst undef) w) : wpMix P ops C Ke ((false, o) :: rest) a w :=
  h _ fun _ _ h => h

def mixOk (ops : Array Oper) (ts : List Nat) : List (Bool × Nat) → Array Bool → Bool
  | [], listed => seqT ops ts listed
  | (true, i) :: rem, listed => (Region.ready .any ops listed).contains i && Region.free .any ops listed i && mixOk ops ts rem (listed.setIfInBounds i true)
  | (false, i) :: rem, listed => decide (Region.ready .any ops listed = [i]) && mixOk ops ts rem (listed.setIfInBounds i true)

theorem mixC (hCl : ∀ w w', C w → Below w.heap.size w w' → C w') {pre : List Nat} (htl : tailOk ops pre ts = true) (hs : Region.noSelect ops = true) : ∀ (ks : List (Bool × Nat)) (kl : List (Bool × Oper)) (listed : Array Bool) (a : Act) (w : World), (∀ k ∈ ks, k.2 ∈ pre) → Closed ops listed →
    ks.map (fun k => (k.1, ops[k.2]?)) = kl.map (fun k => (k.1, some k.2)) → mixOk ops ts ks listed = true → C w → wpMix P ops C Ke kl a w → anyC P ops C ts Ke ks.length listed a w
  | [], [], listed, a, w, _, _, _, hB, hC, h => ⟨hC, by simpa [mixOk] using hB, h⟩
  | [], _ :: _, _, _, _, _, _, hq, _, _, _ => by simp at hq
  | _ :: _, [], _, _, _, _, _, hq, _, _, _ => by simp at hq
  | (true, i) :: ks, (false, o) :: kl, _, _, _, _, _, hq, _, _, _ => by simp at hq
  | (false, i) :: ks, (true, o) :: kl, _, _, _, _, _, hq, _, _, _ => by simp at hq
  | (true, i) :: ks, (true, o) :: kl, listed, a, w, hp, hc, hq, hB, hC, h => by
    simp only [List.map_cons, List.cons.injEq, Prod.mk.injEq, true_and] at hq
    simp only [mixOk, Bool.and_eq_true] at hB
    obtain ⟨⟨hr, hf⟩, hB'⟩ := hB
    have hr' : i ∈ Region.ready .any ops listed := by simpa using hr
    have main : ∀ v, fixedC P ops C o v a → wpMix P ops C Ke kl (a.put o.dst v) w → anyC P ops C ts Ke (ks.length + 1) listed a w := fun v hv hk => by
      exact firstC hCl htl hq.1 (Region.noSelect_spec hs) (hp (true, i) (by simp)) v _ listed a w (Region.free_spec hq.1 hf) hc hr' hv (mixC hCl htl hs ks kl _ _ w (fun j hj => hp j (by simp [hj])) (hc.set hr') hq.2 hB' hC hk)
    unfold wpMix at h
    by_cases hw : Region.wanted o (yielded ops a.tmps) = true
    · rw [if_pos hw] at h
      obtain ⟨v, hv, hK⟩ := h
      exact main v (.inl ⟨hw, hv⟩) hK
    · rw [if_neg hw] at h
      exact main undef (.inr ⟨by simpa using hw, rfl⟩) h
  | (false, i) :: ks, (false, o) :: kl, listed, a, w, hp, hc, hq, hB, hC, h => by
    simp only [List.map_cons, List.cons.injEq, Prod.mk.injEq, true_and] at hq
    simp only [mixOk, Bool.and_eq_true, decide_eq_true_eq] at hB
    have hr' : i ∈ Region.ready .any ops listed := by rw [hB.1]; simp
    refine ⟨hC, fun h1 => (by rw [hB.1] at h1; cases h1), fun j hj => ?_⟩
    rw [hB.1] at hj
    obtain rfl : j = i := by simpa using hj
    refine ⟨o, hq.1, ?_⟩
    unfold wpMix at h
    by_cases hw : Region.wanted o (yielded ops a.tmps) = true
    · rw [if_pos hw] at h ⊢
      exact stepC_mono (fun u w' hb hK => mixC hCl htl hs ks kl _ _ w' (fun j hj => hp j (by simp [hj])) (hc.set hr') hq.2 hB.2 (hCl _ _ hC hb) hK) h
    · rw [if_neg hw] at h ⊢
      exact mixC hCl htl hs ks kl _ _ w (fun j hj => hp j (by simp [hj])) (hc.set hr') hq.2 hB.2 hC h

theorem anyC_wp {tl : List Oper} (hq : ts.map (fun i => ops[i]?) = tl.map some) (hK : ∀ a w, Ke a w → wpList P ops Q tl a w) : ∀ (f : Nat) (listed : Array Bool) (a : Act) (w : World), anyC P ops C ts Ke f listed a w → wpAny P .any ops Q (f + ts.length) listed a w
  | 0, listed, a, w, h => by
    rw [Nat.zero_add]
    exact seq_wp ts tl listed a w hq h.2.1 (hK a w h.2.2)
  | f + 1, listed, a, w, h => by
    rw [show f + 1 + ts.length = (f + ts.length) + 1 by omega]
    refine ⟨fun h0 => absurd h0 h.2.1, fun i hi => ?_⟩
    obtain ⟨o, ho, h'⟩ := h.2.2 i hi
    unfold wpOp
    simp only [ho]
    by_cases hw : Region.wanted o (yielded ops a.tmps) = true
    · rw [if_pos hw] at h' ⊢
      refine .inl ?_
      unfold Oper.wp
      generalize (execOp a.eval o).run P w = r at *
      cases r with
      | ok n w' =>
        cases n <;> simp only [stepC] at h' <;> simp only [Oper.upon]
        case value u => exact anyC_wp hq hK f _ _ _ h'.2
        case skip => exact anyC_wp hq hK f _ _ _ h'.2
        case enter g args =>
          rw [h'.1]
          exact h'.2.mono fun e w'' ⟨u, he, _, hk⟩ => by subst he; exact anyC_wp hq hK f _ _ _ hk
      | halt x w' => simp only [stepC] at h'
    · rw [if_neg hw] at h' ⊢
      exact anyC_wp hq hK f _ _ _ h'

def allOkM (ops : Array Oper) (ks : List (Bool × Nat)) (ts : List Nat) : Bool :=
  Region.noSelect ops && tailOk ops (ks.map (·.2)) ts && mixOk ops ts ks (Array.replicate ops.size false) && decide (ops.size = ks.length + ts.length)

/-- Some operations of a region with their marks, by their numbers. -/
def pickM (l : List Oper) (ks : List (Bool × Nat)) : List (Bool × Oper) := ks.filterMap fun k => l[k.2]?.map fun o => (k.1, o)

theorem region_mix {id : Nat} {a : Act} {w : World} {l : List Oper} (ks : List (Bool × Nat)) (ts : List Nat) (hm : P.follows .mixedOrders = true) (hB : allOkM l.toArray ks ts = true)
    (hkl : ks.map (fun k => (k.1, l.toArray[k.2]?)) = (pickM l ks).map (fun k => (k.1, some k.2))) (htl : ts.map (fun i => l.toArray[i]?) = (pickL l ts).map some)
    (h : wpMix P l.toArray (fun w' => ∃ x : BW w, w' = x.w) (fun a'' w'' => Below w.heap.size w w'' → wpList P l.toArray Q (pickL l ts) a'' w'') (pickM l ks) a w.drew) : (Code.region id l.toArray true).wp P Q a w := by
  refine wp_region_any hm ?_
  rw [bw_class] at h
  simp only [allOkM, Bool.and_eq_true, decide_eq_true_eq] at hB
  obtain ⟨⟨⟨hs, ht⟩, hl⟩, hsz⟩ := hB
  have hC0 : Below w.heap.size w w.drew := (Below.refl w.heap.size w).drew
  have hCl : ∀ x y : World, Below w.heap.size w x → Below x.heap.size x y → Below w.heap.size w y := fun x y h1 h2 => h1.trans (h2.mono h1.size)
  have hc0 : Closed l.toArray (Array.replicate l.toArray.size false) := fun j oj _ hl' => (by rw [getD_replicate_false] at hl'; cases hl')
  have H := mixC (P := P) (C := Below w.heap.size w) (Ke := fun a'' w'' => Below w.heap.size w w'' → wpList P l.toArray Q (pickL l ts) a'' w'') hCl ht hs ks _ _ a w.drew (fun k hk => List.mem_map.2 ⟨k, hk, rfl⟩) hc0 hkl hl hC0 h
  have H2 : anyC P l.toArray (Below w.heap.size w) ts (fun a'' w'' => wpList P l.toArray Q (pickL l ts) a'' w'') ks.length (Array.replicate l.toArray.size false) a w.drew := anyC_post (fun a w hC hK => hK hC) _ _ _ _ H
  have := anyC_wp (Q := Q) htl (fun _ _ h => h) _ _ _ _ H2
  rw [← hsz] at this
  exact this

end
end Go.Soft
