/-
  A region that draws its order, whose operations read, call functions that only make memory of their own, or lay a new block: one walk in a fixed order serves every order. A forced tail (stores, an append) stands behind it.
  Conditions: each theorem's own premises.
-/
import Derived.StillTail
import Derived.Deep.Quiet
import Derived.Below
import Derived.OrdersIn
import Derived.TacticsIn
namespace Go.Soft
set_option linter.unusedSimpArgs false
set_option linter.unusedVariables false
open Go.RowKit

section
variable {P : Program} {ops : Array Oper} {Q : Exit → Act → World → Prop}

/-- What one operation gives in the world 'w': the value v and the same world; or a call that returns v and leaves all that was there. -/
def upon (P : Program) (w : World) (v : Value) : Result Next → Prop
  | .ok (.value u) w' => w' = w ∧ u = v
  | .ok .skip w' => w' = w ∧ v = undef
  | .ok (.enter f args) w' => w' = w ∧ Calls P f args w (fun e w'' => e = .returned v ∧ Below w.heap.size w w'')
  | _ => False

/-- What an operation yields: a value for each number of a new block, and the block, if it lays one. -/
abbrev Yd := (Nat → Value) × Option Obj

def gives (U : World → Value → Result Next → Prop) (P : Program) (C : World → Prop) (o : Oper) (y : Yd) (a : Act) : Prop :=
  match y.2 with
  | none => ∀ w, C w → U w (y.1 0) ((execOp a.eval o).run P w)
  | some obj => ∀ w, C w → (execOp a.eval o).run P w = .ok (.value (y.1 w.heap.size)) (w.alloc obj)

def yields (U : World → Value → Result Next → Prop) (P : Program) (ops : Array Oper) (C : World → Prop) (o : Oper) (y : Yd) (a : Act) : Prop :=
  (Region.wanted o (yielded ops a.tmps) = true ∧ gives U P C o y a) ∨ (Region.wanted o (yielded ops a.tmps) = false ∧ y.1 0 = undef ∧ y.2 = none)

def upd (y : Yd) (κ : Nat → Nat) (i k : Nat) : Nat → Nat := fun x => if y.2.isSome ∧ x = i then k else κ x

theorem upd_comm {y z : Yd} {κ : Nat → Nat} {i j k l : Nat} (h : i ≠ j) : upd y (upd z κ j l) i k = upd z (upd y κ i k) j l := by
  funext x
  unfold upd
  by_cases h1 : x = i <;> by_cases h2 : x = j <;> simp_all

def cont (i : Nat) (o : Oper) (y : Yd) (K : Act → (Nat → Nat) → Prop) (a : Act) (κ : Nat → Nat) : Prop :=
  ∀ k, (y.2 = none → k = 0) → K (a.put o.dst (y.1 k)) (upd y κ i k)

/-- The tail comes up in this order alone. -/
def seqT (ops : Array Oper) : List Nat → Array Bool → Bool
  | [], listed => (Region.ready .any ops listed).isEmpty
  | t :: ts, listed => decide (Region.ready .any ops listed = [t]) && seqT ops ts (listed.setIfInBounds t true)

def done (ops : Array Oper) (ms ts : List Nat) (listed : Array Bool) : Bool := seqT ops ts listed && ms.all fun m => listed.getD m false

theorem seqT_ready {ts : List Nat} {listed : Array Bool} (h : seqT ops ts listed = true) {j : Nat} (hj : j ∈ Region.ready .any ops listed) : j ∈ ts := by
  cases ts with
  | nil => simp only [seqT, List.isEmpty_iff] at h; rw [h] at hj; cases hj
  | cons t ts => simp only [seqT, Bool.and_eq_true, decide_eq_true_eq] at h; rw [h.1] at hj; simp at hj; simp [hj]

def anyV (G : Nat → Prop) (U : World → Value → Result Next → Prop) (P : Program) (ops : Array Oper) (C : World → Prop) (Y : Nat → Yd) (ms ts : List Nat) (Qt : Act → (Nat → Nat) → Prop) : Nat → Array Bool → Act → (Nat → Nat) → Prop
  | 0, listed, a, κ => done ops ms ts listed = true ∧ Qt a κ
  | f + 1, listed, a, κ => Region.ready .any ops listed ≠ [] ∧ ∀ i ∈ Region.ready .any ops listed, ∃ o, ops[i]? = some o ∧ G i ∧ yields U P ops C o (Y i) a ∧
      cont i o (Y i) (anyV G U P ops C Y ms ts Qt f (listed.setIfInBounds i true)) a κ

/-- Whatever has come up, has come up behind all that it waits for. -/
def Closed (ops : Array Oper) (listed : Array Bool) : Prop := ∀ j oj, ops[j]? = some oj → listed.getD j false = true → ∀ e ∈ oj.after, Region.binds .any e = true → listed.getD e.on false = true

theorem getD_ff {listed : Array Bool} {i : Nat} (h : listed.getD i true = false) : listed.getD i false = false := by
  rcases Nat.lt_or_ge i listed.size with h' | h'
  · simp [h'] at h ⊢; exact h
  · simp [Array.getElem?_eq_none h'] at h

theorem Closed.set {listed : Array Bool} {i : Nat} (hc : Closed ops listed) (hi : i ∈ Region.ready .any ops listed) : Closed ops (listed.setIfInBounds i true) := by
  obtain ⟨_, oi, hoi, hall⟩ := mem_ready.1 hi
  intro j oj hj hl e he hb
  by_cases hij : i = j
  · subst hij
    obtain rfl : oj = oi := Option.some.inj (hj.symm.trans hoi)
    exact getD_set_true (hall e he hb)
  · rw [getD_set_ne false hij] at hl
    exact getD_set_true (hc j oj hj hl e he hb)

/-- Each of the first ones is waited for by a later one, or by the tail's first. -/
def waited (ops : Array Oper) (t : Nat) : List Nat → Bool
  | [] => true
  | i :: rest => (rest ++ [t]).any (fun j => Region.waitsFor .any ops j i) && waited ops t rest

def chained (ops : Array Oper) : List Nat → Bool
  | t :: u :: ts => Region.waitsFor .any ops u t && chained ops (u :: ts)
  | _ => true

theorem unlisted_of {listed : Array Bool} (hc : Closed ops listed) {i j : Nat} (hw : Region.waitsFor .any ops j i = true) (hi : listed.getD i false = false) :
    listed.getD j false = false ∧ j ∉ Region.ready .any ops listed := by
  obtain ⟨oj, hoj, e, he, hb, hon⟩ := Region.waitsFor_spec hw
  refine ⟨?_, fun hr => ?_⟩
  · cases hl : listed.getD j false with
    | false => rfl
    | true => have := hc j oj hoj hl e he hb; rw [hon, hi] at this; cases this
  · obtain ⟨_, o', ho', hall⟩ := mem_ready.1 hr
    obtain rfl : o' = oj := Option.some.inj (ho'.symm.trans hoj)
    have := hall e he hb; rw [hon, hi] at this; cases this

theorem chained_unready {listed : Array Bool} (hc : Closed ops listed) : ∀ (ts : List Nat) (t : Nat), chained ops (t :: ts) = true → listed.getD t false = false → ∀ u ∈ ts, u ∉ Region.ready .any ops listed
  | [], _, _, _, u, hu => by cases hu
  | u :: ts, t, hch, ht, v, hv => by
    simp only [chained, Bool.and_eq_true] at hch
    have h1 := unlisted_of hc hch.1 ht
    rcases List.mem_cons.1 hv with rfl | hv
    · exact h1.2
    · exact chained_unready hc ts u hch.2 h1.1 v hv

theorem first_unready {listed : Array Bool} (hc : Closed ops listed) {t : Nat} : ∀ (l : List Nat), waited ops t l = true → ∀ i ∈ l, listed.getD i false = false → listed.getD t false = false ∧ t ∉ Region.ready .any ops listed
  | [], _, i, hi, _ => by cases hi
  | i :: rest, hw, j, hj, hu => by
    simp only [waited, Bool.and_eq_true] at hw
    rcases List.mem_cons.1 hj with rfl | hj
    · obtain ⟨k, hk, hwk⟩ := List.any_eq_true.1 hw.1
      have h1 := unlisted_of hc hwk hu
      rcases List.mem_append.1 hk with hk | hk
      · exact first_unready hc rest hw.2 k hk h1.1
      · obtain rfl : k = t := by simpa using hk
        exact h1
    · exact first_unready hc rest hw.2 j hj hu

def tailOk (ops : Array Oper) (pre ts : List Nat) : Bool :=
  match ts with
  | [] => true
  | t :: ts => waited ops t pre && chained ops (t :: ts)

theorem tail_unready {pre ts : List Nat} (h : tailOk ops pre ts = true) {listed : Array Bool} (hc : Closed ops listed) {i : Nat} (hi : i ∈ pre) (hu : listed.getD i false = false) : ∀ t ∈ ts, t ∉ Region.ready .any ops listed := by
  cases ts with
  | nil => intro t ht; cases ht
  | cons t ts =>
    simp only [tailOk, Bool.and_eq_true] at h
    have h1 := first_unready hc pre h.1 i hi hu
    intro u hu'
    rcases List.mem_cons.1 hu' with rfl | hu'
    · exact h1.2
    · exact chained_unready hc ts t h.2 h1.1 u hu'

theorem yields_put {U : World → Value → Result Next → Prop} {C : World → Prop} {o : Oper} {y : Yd} {a : Act} {d : Option Tmp} {v : Value} (hs : ∀ cs b, o.op ≠ .select cs b) (h : ∀ t, d = some t → t ∉ o.looksAt ops) :
    yields U P ops C o y (a.put d v) ↔ yields U P ops C o y a := by
  unfold yields gives
  rw [execOp_put o hs a d v h, wanted_put o a d v h]

variable {G : Nat → Prop} {U : World → Value → Result Next → Prop} {C : World → Prop} {Y : Nat → Yd} {ms ts : List Nat} {Qt : Act → (Nat → Nat) → Prop}

theorem firstV {pre : List Nat} (htl : tailOk ops pre ts = true) {i : Nat} {oi : Oper} (hi : ops[i]? = some oi) (hsel : ∀ (j : Nat) (o : Oper) cs b, ops[j]? = some o → o.op ≠ .select cs b) (hip : i ∈ pre) (hG : G i) :
    ∀ (f : Nat) (listed : Array Bool) (a : Act) (κ : Nat → Nat),
      (∀ j oj, ops[j]? = some oj → j ≠ i → listed.getD j true = false → (∀ e ∈ oj.after, Region.binds .any e = true → e.on ≠ i) → oi.apart ops oj = true) →
      Closed ops listed → i ∈ Region.ready .any ops listed → yields U P ops C oi (Y i) a →
      cont i oi (Y i) (anyV G U P ops C Y ms ts Qt f (listed.setIfInBounds i true)) a κ → anyV G U P ops C Y ms ts Qt (f + 1) listed a κ := by
  intro f
  induction f with
  | zero =>
    intro listed a κ _ hcl hr hy H
    refine ⟨fun h => (by rw [h] at hr; cases hr), fun j hj => ?_⟩
    by_cases hji : j = i
    · subst hji; exact ⟨oi, hi, hG, hy, H⟩
    · exfalso
      have h0 := (H 0 (fun _ => rfl)).1
      simp only [done, Bool.and_eq_true] at h0
      exact tail_unready htl hcl hip (getD_ff (mem_ready.1 hr).1) j (seqT_ready h0.1 (ready_mono hj hji)) hj
  | succ f ih =>
    intro listed a κ hfree hcl hr hy H
    refine ⟨fun h => (by rw [h] at hr; cases hr), fun j hj => ?_⟩
    by_cases hji : j = i
    · subst hji; exact ⟨oi, hi, hG, hy, H⟩
    · obtain ⟨hjun, oj, hoj, hall⟩ := mem_ready.1 hj
      have hnot : ∀ e ∈ oj.after, Region.binds .any e = true → e.on ≠ i := fun e he hb heq => by
        have h1 := hall e he hb
        rw [heq, getD_ff (mem_ready.1 hr).1] at h1
        cases h1
      obtain ⟨a1, a2, a3⟩ := Oper.apart_spec (hfree j oj hoj hji hjun hnot)
      have hj' := ready_mono hj hji
      have hyj : G j ∧ yields U P ops C oj (Y j) a := by
        obtain ⟨o', ho', hg', hy', _⟩ := (H 0 (fun _ => rfl)).2 j hj'
        obtain rfl : o' = oj := Option.some.inj (ho'.symm.trans hoj)
        exact ⟨hg', (yields_put (fun cs b => hsel j _ cs b hoj) a1).1 hy'⟩
      refine ⟨oj, hoj, hyj.1, hyj.2, fun k' hk' => ?_⟩
      refine ih (listed.setIfInBounds j true) _ _ (fun k ok hk hki hun hno => ?_) (hcl.set hj) (ready_mono hr (Ne.symm hji)) ((yields_put (fun cs b => hsel i _ cs b hi) a3).2 hy) (fun k hk => ?_)
      · refine hfree k ok hk hki ?_ hno
        by_cases hjk : j = k
        · subst hjk; exact hjun
        · rw [getD_set_ne true hjk] at hun; exact hun
      · obtain ⟨o', ho', _, _, hc'⟩ := (H k hk).2 j hj'
        obtain rfl : o' = oj := Option.some.inj (ho'.symm.trans hoj)
        have := hc' k' hk'
        rw [Array.setIfInBounds_comm _ _ hji, ← Act.put_comm a _ _ a2, upd_comm (Ne.symm hji)]
        exact this

def lexV (G : Nat → Prop) (U : World → Value → Result Next → Prop) (P : Program) (ops : Array Oper) (C : World → Prop) (Y : Nat → Yd) (Qt : Act → (Nat → Nat) → Prop) : List Nat → Act → (Nat → Nat) → Prop
  | [], a, κ => Qt a κ
  | i :: rem, a, κ => ∃ o, ops[i]? = some o ∧ G i ∧ yields U P ops C o (Y i) a ∧ cont i o (Y i) (lexV G U P ops C Y Qt rem) a κ

def lexOk (ops : Array Oper) (ms ts : List Nat) : List Nat → Array Bool → Bool
  | [], listed => done ops ms ts listed
  | i :: rem, listed => (Region.ready .any ops listed).contains i && Region.free .any ops listed i && lexOk ops ms ts rem (listed.setIfInBounds i true)

theorem lexV_any {pre : List Nat} (htl : tailOk ops pre ts = true) (hs : Region.noSelect ops = true) : ∀ (rem : List Nat) (listed : Array Bool) (a : Act) (κ : Nat → Nat), (∀ i ∈ rem, i ∈ pre) → Closed ops listed →
    lexOk ops ms ts rem listed = true → lexV G U P ops C Y Qt rem a κ → anyV G U P ops C Y ms ts Qt rem.length listed a κ
  | [], _, _, _, _, _, hB, h => ⟨by simpa [lexOk] using hB, h⟩
  | i :: rem, listed, a, κ, hp, hcl, hB, h => by
    simp only [lexOk, Bool.and_eq_true] at hB
    obtain ⟨⟨hr, hf⟩, hB'⟩ := hB
    have hr' : i ∈ Region.ready .any ops listed := by simpa using hr
    obtain ⟨o, ho, hg, hy, hc⟩ := h
    exact firstV htl ho (Region.noSelect_spec hs) (hp i (by simp)) hg rem.length listed a κ (Region.free_spec ho hf) hcl hr' hy
      (fun k hk => lexV_any htl hs rem _ _ _ (fun j hj => hp j (by simp [hj])) (hcl.set hr') hB' (hc k hk))

theorem lexV_congr {Y Y' : Nat → Yd} : ∀ (rem : List Nat) (a : Act) (κ : Nat → Nat), (∀ i ∈ rem, Y i = Y' i) → lexV G U P ops C Y Qt rem a κ → lexV G U P ops C Y' Qt rem a κ
  | [], _, _, _, h => h
  | i :: rem, a, κ, hY, ⟨o, ho, hg, hy, hc⟩ => by
    have e := hY i (by simp)
    exact ⟨o, ho, hg, e ▸ hy, fun k hk => by rw [← e] at hk ⊢; exact lexV_congr rem _ _ (fun j hj => hY j (by simp [hj])) (hc k hk)⟩

/-! ### The walk that is typed -/

/-- Some operations of a region, by their numbers. -/
def pickL (l : List Oper) (is : List Nat) : List Oper := is.filterMap fun i => l[i]?


def wpSoft (U : World → Value → Result Next → Prop) (P : Program) (ops : Array Oper) (C : World → Prop) (Qe : Act → Prop) : List Oper → Act → Prop
  | [], a => Qe a
  | o :: rest, a => if Region.wanted o (yielded ops a.tmps) then ∃ v, (∀ w, C w → U w v ((execOp a.eval o).run P w)) ∧ wpSoft U P ops C Qe rest (a.put o.dst v) else wpSoft U P ops C Qe rest (a.put o.dst undef)

theorem soft_nil {Qe : Act → Prop} {a : Act} (h : Qe a) : wpSoft U P ops C Qe [] a := h
theorem soft_step {Qe : Act → Prop} {a : Act} {o : Oper} {rest : List Oper}
    (h : ∀ K : Act → Prop, (∀ a, wpSoft U P ops C Qe rest a → K a) → if Region.wanted o (yielded ops a.tmps) then ∃ v, (∀ w, C w → U w v ((execOp a.eval o).run P w)) ∧ K (a.put o.dst v) else K (a.put o.dst undef)) : wpSoft U P ops C Qe (o :: rest) a :=
  h _ fun _ h => h

theorem lexV_of_soft {rem : List Nat} {κ : Nat → Nat} {Qy : (Nat → Yd) → Act → (Nat → Nat) → Prop} (hQ : ∀ Y Y' : Nat → Yd, (∀ i ∈ rem, Y i = Y' i) → Qy Y = Qy Y') : ∀ (qs : List Nat) (ql : List Oper) (a : Act), (∀ i ∈ qs, G i) → (qs ++ rem).Nodup → qs.map (fun i => ops[i]?) = ql.map some →
    wpSoft U P ops C (fun a' => ∃ Y, lexV G U P ops C Y (Qy Y) rem a' κ) ql a → ∃ Y, lexV G U P ops C Y (Qy Y) (qs ++ rem) a κ
  | [], [], _, _, _, _, h => h
  | [], _ :: _, _, _, _, hq, _ => by simp at hq
  | _ :: _, [], _, _, _, hq, _ => by simp at hq
  | i :: qs, o :: ql, a, hG, hn, hq, h => by
    have hG' : ∀ j ∈ qs, G j := fun j hj => hG j (by simp [hj])
    simp only [List.map_cons, List.cons.injEq] at hq
    rw [List.cons_append, List.nodup_cons] at hn
    have main : ∀ v, (∃ Y, lexV G U P ops C Y (Qy Y) (qs ++ rem) (a.put o.dst v) κ) → yields U P ops C o ((fun _ => v), none) a → ∃ Y, lexV G U P ops C Y (Qy Y) (i :: (qs ++ rem)) a κ := fun v ⟨Y, hY⟩ hy => by
      have hsame : ∀ j ∈ qs ++ rem, Y j = (fun x => if x = i then ((fun _ => v), none) else Y x : Nat → Yd) j := fun j hj => by have hne : j ≠ i := fun h => hn.1 (h ▸ hj); simp only [if_neg hne]
      refine ⟨fun x => if x = i then ((fun _ => v), none) else Y x, o, hq.1, hG i (by simp), by simpa using hy, fun k _ => ?_⟩
      simp only [if_true]
      have e : upd ((fun _ => v), none) κ i k = κ := by funext x; simp [upd]
      rw [e, ← hQ Y _ (fun j hj => hsame j (List.mem_append_right _ hj))]
      exact lexV_congr _ _ _ hsame hY
    unfold wpSoft at h
    by_cases hw : Region.wanted o (yielded ops a.tmps) = true
    · rw [if_pos hw] at h
      obtain ⟨v, hv, hK⟩ := h
      exact main v (lexV_of_soft hQ qs ql _ hG' hn.2 hq.2 hK) (.inl ⟨hw, hv⟩)
    · rw [if_neg hw] at h
      exact main undef (lexV_of_soft hQ qs ql _ hG' hn.2 hq.2 h) (.inr ⟨by simpa using hw, rfl, rfl⟩)

/-! ### Down to the region -/

/-- The blocks that were laid, all of them new, each as it was laid. -/
structure Made (B : Nat) (Y : Nat → Yd) (κ : Nat → Nat) (listed : Array Bool) (w : World) : Prop where
  at_ : ∀ i obj, listed.getD i false = true → (Y i).2 = some obj → B ≤ κ i ∧ w.heap[κ i]? = some obj
  apart : ∀ i j, i ≠ j → listed.getD i false = true → listed.getD j false = true → (Y i).2.isSome = true → (Y j).2.isSome = true → κ i ≠ κ j

theorem Made.ext {B : Nat} {κ : Nat → Nat} {listed : Array Bool} {w w' : World} (h : Made B Y κ listed w) (hw : Below w.heap.size w w') : Made B Y κ listed w' :=
  ⟨fun i obj hl ho => by
    obtain ⟨h1, h2⟩ := h.at_ i obj hl ho
    exact ⟨h1, (hw.block _ (Array.getElem?_eq_some_iff.1 h2).1).trans h2⟩, h.apart⟩

theorem getD_set_self {listed : Array Bool} {i j : Nat} (h : (listed.setIfInBounds i true).getD j false = true) (hne : j ≠ i) : listed.getD j false = true := by
  rwa [getD_set_ne false (Ne.symm hne)] at h

theorem Made.quiet {B : Nat} {κ : Nat → Nat} {listed : Array Bool} {w : World} {i k : Nat} (h : Made B Y κ listed w) (hi : (Y i).2 = none) : Made B Y (upd (Y i) κ i k) (listed.setIfInBounds i true) w := by
  have e : upd (Y i) κ i k = κ := by funext x; simp [upd, hi]
  rw [e]
  have ne : ∀ j, (Y j).2.isSome = true → j ≠ i := fun j hj e => by subst e; simp [hi] at hj
  exact ⟨fun j obj hl ho => h.at_ j obj (getD_set_self hl (ne j (by simp [ho]))) ho, fun j l hne hj hl sj sl => h.apart j l hne (getD_set_self hj (ne j sj)) (getD_set_self hl (ne l sl)) sj sl⟩

theorem Made.make {B : Nat} {κ : Nat → Nat} {listed : Array Bool} {w : World} {i : Nat} {obj : Obj} (h : Made B Y κ listed w) (hB : B ≤ w.heap.size) (hi : (Y i).2 = some obj) : Made B Y (upd (Y i) κ i w.heap.size) (listed.setIfInBounds i true) (w.alloc obj) := by
  have ei : upd (Y i) κ i w.heap.size i = w.heap.size := by simp [upd, hi]
  have en : ∀ j, j ≠ i → upd (Y i) κ i w.heap.size j = κ j := fun j hj => by simp [upd, hj]
  have hex := h.ext ((Below.refl w.heap.size w).alloc (Nat.le_refl _) obj)
  have lt : ∀ j, j ≠ i → (listed.setIfInBounds i true).getD j false = true → (Y j).2.isSome = true → κ j < w.heap.size := fun j hj hl hs => by
    obtain ⟨o', ho'⟩ := Option.isSome_iff_exists.1 hs
    exact (Array.getElem?_eq_some_iff.1 (h.at_ j o' (getD_set_self hl hj) ho').2).1
  refine ⟨fun j o' hl ho => ?_, fun j l hne hj hl sj sl => ?_⟩
  · by_cases hji : j = i
    · subst hji
      rw [ei]
      obtain rfl : obj = o' := Option.some.inj (hi.symm.trans ho)
      exact ⟨hB, by show (w.heap.push obj)[w.heap.size]? = some obj; simp⟩
    · rw [en j hji]; exact hex.at_ j o' (getD_set_self hl hji) ho
  · by_cases hji : j = i
    · subst hji
      rw [ei, en l (Ne.symm hne)]
      have := lt l (Ne.symm hne) hl sl
      omega
    · by_cases hli : l = i
      · subst hli
        rw [ei, en j hji]
        have := lt j hji hj sj
        omega
      · rw [en j hji, en l hli]
        exact h.apart j l hne (getD_set_self hj hji) (getD_set_self hl hli) sj sl

theorem seq_wp : ∀ (ts : List Nat) (tl : List Oper) (listed : Array Bool) (a : Act) (w : World), ts.map (fun i => ops[i]?) = tl.map some → seqT ops ts listed = true → wpList P ops Q tl a w → wpAny P .any ops Q ts.length listed a w
  | [], [], _, _, _, _, hB, h => ⟨by simpa [seqT] using hB, h⟩
  | [], _ :: _, _, _, _, hq, _, _ => by simp at hq
  | _ :: _, [], _, _, _, hq, _, _ => by simp at hq
  | t :: ts, o :: tl, listed, a, w, hq, hB, h => by
    simp only [List.map_cons, List.cons.injEq] at hq
    simp only [seqT, Bool.and_eq_true, decide_eq_true_eq] at hB
    refine ⟨fun h1 => (by rw [hB.1] at h1; cases h1), fun i hi => ?_⟩
    rw [hB.1] at hi
    obtain rfl : i = t := by simpa using hi
    have hw : wpOp P ops Q i (wpList P ops Q tl) a w := by unfold wpOp; simp only [hq.1]; exact h
    exact wpOp_mono (fun a' w' h' => seq_wp ts tl _ a' w' hq.2 hB.2 h') hw

theorem any_wp {B : Nat} {w₀ : World} {tl : List Oper} (hq : ts.map (fun i => ops[i]?) = tl.map some) (hB : B = w₀.heap.size)
    (hQ : ∀ a κ w listed, done ops ms ts listed = true → Below B w₀ w → Made B Y κ listed w → Qt a κ → wpList P ops Q tl a w) : ∀ (f : Nat) (listed : Array Bool) (a : Act) (κ : Nat → Nat) (w : World), Below B w₀ w → Made B Y κ listed w →
    anyV G (upon P) P ops (Below B w₀) Y ms ts Qt f listed a κ → wpAny P .any ops Q (f + ts.length) listed a w
  | 0, listed, a, κ, w, hb, hm, h => by
    rw [Nat.zero_add]
    have h1 := h.1
    simp only [done, Bool.and_eq_true] at h1
    exact seq_wp ts tl listed a w hq h1.1 (hQ a κ w listed h.1 hb hm h.2)
  | f + 1, listed, a, κ, w, hb, hm, h => by
    rw [show f + 1 + ts.length = (f + ts.length) + 1 by omega]
    refine ⟨fun h0 => absurd h0 h.1, fun i hi => ?_⟩
    obtain ⟨o, ho, _, hy, hc⟩ := h.2 i hi
    have hle : B ≤ w.heap.size := by rw [hB]; exact hb.size
    unfold wpOp
    simp only [ho]
    rcases hy with ⟨hw, hg⟩ | ⟨hw, h0, hn⟩
    · rw [if_pos hw]
      refine .inl ?_
      unfold gives at hg
      unfold Oper.wp
      cases hy2 : (Y i).2 with
      | none =>
        rw [hy2] at hg
        have h3 := hg w hb
        have go : ∀ w', Below w.heap.size w w' → wpAny P .any ops Q (f + ts.length) (listed.setIfInBounds i true) (a.put o.dst ((Y i).1 0)) w' := fun w' hw' =>
          any_wp hq hB hQ f _ _ _ w' (hb.trans (hw'.mono hle)) ((hm.ext hw').quiet hy2) (hc 0 (fun _ => rfl))
        generalize (execOp a.eval o).run P w = r at *
        cases r with
        | ok n w' =>
          cases n <;> simp only [upon] at h3 <;> simp only [Oper.upon]
          case value u => obtain ⟨e1, e2⟩ := h3; rw [e1, e2]; exact go w (Below.refl _ _)
          case skip => obtain ⟨e1, e2⟩ := h3; rw [e1, ← e2]; exact go w (Below.refl _ _)
          case enter g args =>
            obtain ⟨e1, hcall⟩ := h3
            rw [e1]
            exact hcall.mono fun e w'' ⟨he, hw''⟩ => by subst he; exact go w'' hw''
        | halt x w' => simp only [upon] at h3
      | some obj =>
        rw [hy2] at hg
        rw [hg w hb]
        exact any_wp hq hB hQ f _ _ _ _ (hb.alloc hle obj) (hm.make hle hy2) (hc w.heap.size (fun e => by rw [hy2] at e; cases e))
    · rw [if_neg (by simp [hw]), ← h0]
      exact any_wp hq hB hQ f _ _ _ w hb (hm.quiet hn) (hc 0 (fun _ => rfl))

def allOk (ops : Array Oper) (qs ms ts : List Nat) : Bool :=
  Region.noSelect ops && tailOk ops (qs ++ ms) ts && lexOk ops ms ts (qs ++ ms) (Array.replicate ops.size false) && decide ((qs ++ ms).Nodup) && decide (ops.size = (qs ++ ms).length + ts.length)

/-- The worlds that keep all that there is in 'w'. -/
def BW (w : World) : Type := { w' : World // Below w.heap.size w w' }
instance bw_some (w : World) : Nonempty (BW w) := ⟨⟨w, Below.refl _ _⟩⟩
def BW.w {w : World} (x : BW w) : World := x.1
theorem BW.below {w : World} (x : BW w) : Below w.heap.size w x.w := x.2
theorem BW.of {w : World} {x : BW w} {w' : World} (h : Below x.w.heap.size x.w w') : ∃ y : BW w, w' = y.w := ⟨⟨w', x.below.trans (h.mono x.below.size)⟩, rfl⟩
/-- A cell that is there. -/
theorem BW.cell {w : World} (x : BW w) {p : Addr} {v : Value} (h : w.cell? p = some v) : x.w.cell? p = some v := (x.below.cell (World.block_lt_of_cell? _ _ h)).trans h
/-- A block that is known whole. -/
theorem BW.blk {w : World} (x : BW w) {b : Nat} {c : Array Value} (hb : b < w.heap.size) (h : ∀ i, w.cell? ⟨b, i, none⟩ = c[i]?) (i : Nat) : x.w.cell? ⟨b, i, none⟩ = c[i]? := (x.below.cell (p := ⟨b, i, none⟩) hb).trans (h i)

theorem core_any {a : Act} {w : World} {l : List Oper} {tl : List Oper} (qs ms ts : List Nat) (hB : allOk l.toArray qs ms ts = true)
    (htl : ts.map (fun i => l.toArray[i]?) = tl.map some) {Qt : (Nat → Yd) → Act → (Nat → Nat) → Prop}
    (hQ : ∀ Y a κ w' listed, done l.toArray ms ts listed = true → Below w.heap.size w w' → Made w.heap.size Y κ listed w' → Qt Y a κ → wpList P l.toArray Q tl a w')
    (h : ∃ Y, lexV (fun _ => True) (upon P) P l.toArray (Below w.heap.size w) Y (Qt Y) (qs ++ ms) a (fun _ => 0)) : wpAny P .any l.toArray Q l.toArray.size (Array.replicate l.toArray.size false) a { w with drawn := w.drawn + 1 } := by
  simp only [allOk, Bool.and_eq_true, decide_eq_true_eq] at hB
  obtain ⟨⟨⟨⟨hs, ht⟩, hl⟩, _⟩, hsz⟩ := hB
  obtain ⟨Y, hY⟩ := h
  have hcl : Closed l.toArray (Array.replicate l.toArray.size false) := fun j oj _ hl' => (by rw [getD_replicate_false] at hl'; cases hl')
  have H := lexV_any (ms := ms) ht hs (qs ++ ms) _ a _ (fun _ h => h) hcl hl hY
  rw [hsz]
  have hb0 : Below w.heap.size w { w with drawn := w.drawn + 1 } := (Below.refl w.heap.size w).drew
  exact any_wp (B := w.heap.size) (w₀ := w) htl rfl (hQ Y) _ _ a _ { w with drawn := w.drawn + 1 } hb0 ⟨fun i obj hl' => (by rw [getD_replicate_false] at hl'; cases hl'), fun i j _ hl' => (by rw [getD_replicate_false] at hl'; cases hl')⟩ (by
    rw [← hsz] at *
    exact H)

/-- A block is there in this world: found by instances, so that the walk's rules need no fact of their own. -/
class LtH (b : Nat) (w : World) : Prop where
  lt : b < w.heap.size
instance ltH_new (w : World) (o : Obj) : LtH w.heap.size (w.alloc o) := ⟨by simp⟩
instance ltH_alloc (b : Nat) (w : World) (o : Obj) [h : LtH b w] : LtH b (w.alloc o) := ⟨by have := h.lt; simp; omega⟩
instance ltH_set (b : Nat) (w : World) (a : Addr) (v : Value) [h : LtH b w] : LtH b (w.setCell a v) := ⟨by have := h.lt; simpa using this⟩
instance ltH_drew (b : Nat) (w : World) [h : LtH b w] : LtH b w.drew := ⟨h.lt⟩
instance ltH_bw (b : Nat) {w : World} (x : BW w) [h : LtH b w] : LtH b x.w := ⟨Nat.lt_of_lt_of_le h.lt x.below.size⟩
instance ltH_new1 (w : World) (o o' : Obj) : LtH (w.heap.size + 1) ((w.alloc o).alloc o') := ⟨by simp⟩
instance ltH_new2 (w : World) (o o' o2 : Obj) : LtH (w.heap.size + 2) (((w.alloc o).alloc o').alloc o2) := ⟨by simp⟩
instance ltH_new3 (w : World) (o o' o2 o3 : Obj) : LtH (w.heap.size + 3) ((((w.alloc o).alloc o').alloc o2).alloc o3) := ⟨by simp⟩
instance ltH_new4 (w : World) (o o' o2 o3 o4 : Obj) : LtH (w.heap.size + 4) (((((w.alloc o).alloc o').alloc o2).alloc o3).alloc o4) := ⟨by simp⟩
instance ltH_new5 (w : World) (o o' o2 o3 o4 o5 : Obj) : LtH (w.heap.size + 5) ((((((w.alloc o).alloc o').alloc o2).alloc o3).alloc o4).alloc o5) := ⟨by simp⟩
instance ltH_new6 (w : World) (o o' o2 o3 o4 o5 o6 : Obj) : LtH (w.heap.size + 6) (((((((w.alloc o).alloc o').alloc o2).alloc o3).alloc o4).alloc o5).alloc o6) := ⟨by simp⟩
instance ltH_new7 (w : World) (o o' o2 o3 o4 o5 o6 o7 : Obj) : LtH (w.heap.size + 7) ((((((((w.alloc o).alloc o').alloc o2).alloc o3).alloc o4).alloc o5).alloc o6).alloc o7) := ⟨by simp⟩

theorem BW.cell_if {w : World} (x : BW w) (b i : Nat) (s : Option Nat) [h : LtH b w] : x.w.cell? ⟨b, i, s⟩ = w.cell? ⟨b, i, s⟩ := x.below.cell (p := ⟨b, i, s⟩) h.lt
theorem BW.frozen_if {w : World} (x : BW w) (b i : Nat) (s : Option Nat) [h : LtH b w] : x.w.frozen? ⟨b, i, s⟩ = w.frozen? ⟨b, i, s⟩ := x.below.frozen (p := ⟨b, i, s⟩) h.lt
theorem cell_alloc_if (w : World) (o : Obj) (b i : Nat) (s : Option Nat) [h : LtH b w] : (w.alloc o).cell? ⟨b, i, s⟩ = w.cell? ⟨b, i, s⟩ := World.cell?_alloc_lt w o _ h.lt
theorem frozen_alloc_if (w : World) (o : Obj) (b i : Nat) (s : Option Nat) [h : LtH b w] : (w.alloc o).frozen? ⟨b, i, s⟩ = w.frozen? ⟨b, i, s⟩ := World.frozen?_alloc_old w o _ (Nat.ne_of_lt h.lt)

theorem BW.heap_if {w : World} (x : BW w) (b : Nat) [h : LtH b w] : x.w.heap[b]? = w.heap[b]? := x.below.block b h.lt
theorem heap_alloc_if (w : World) (o : Obj) (b : Nat) [h : LtH b w] : (w.alloc o).heap[b]? = w.heap[b]? := Below.heap_alloc w o b h.lt
theorem heap_new (w : World) (o : Obj) : (w.alloc o).heap[w.heap.size]? = some o := by show (w.heap.push o)[w.heap.size]? = some o; simp
theorem heap_new1 (w : World) (o o1 : Obj) : ((w.alloc o).alloc o1).heap[w.heap.size + 1]? = some o1 := by have := heap_new (w.alloc o) o1; simpa using this
theorem heap_new2 (w : World) (o o1 o2 : Obj) : (((w.alloc o).alloc o1).alloc o2).heap[w.heap.size + 2]? = some o2 := by have := heap_new ((w.alloc o).alloc o1) o2; simpa using this
theorem heap_new3 (w : World) (o o1 o2 o3 : Obj) : ((((w.alloc o).alloc o1).alloc o2).alloc o3).heap[w.heap.size + 3]? = some o3 := by have := heap_new (((w.alloc o).alloc o1).alloc o2) o3; simpa using this
theorem heap_new4 (w : World) (o o1 o2 o3 o4 : Obj) : (((((w.alloc o).alloc o1).alloc o2).alloc o3).alloc o4).heap[w.heap.size + 4]? = some o4 := by have := heap_new ((((w.alloc o).alloc o1).alloc o2).alloc o3) o4; simpa using this
theorem heap_new5 (w : World) (o o1 o2 o3 o4 o5 : Obj) : ((((((w.alloc o).alloc o1).alloc o2).alloc o3).alloc o4).alloc o5).heap[w.heap.size + 5]? = some o5 := by have := heap_new (((((w.alloc o).alloc o1).alloc o2).alloc o3).alloc o4) o5; simpa using this

/-- What a contract leaves. -/
theorem BW.mk {w w' : World} (h : Below w.heap.size w w') : ∃ x : BW w, w' = x.w := ⟨⟨w', h⟩, rfl⟩

theorem bw_class {w : World} : (fun w' : World => ∃ x : BW w, w' = x.w) = Below w.heap.size w := by
  funext w'
  exact propext ⟨fun ⟨x, hx⟩ => hx ▸ x.below, fun h => ⟨⟨w', h⟩, rfl⟩⟩

theorem soft_mono {Qe Qe' : Act → Prop} (hm : ∀ a, Qe a → Qe' a) : ∀ (ql : List Oper) (a : Act), wpSoft U P ops C Qe ql a → wpSoft U P ops C Qe' ql a
  | [], a, h => hm a h
  | o :: ql, a, h => by
    unfold wpSoft at h ⊢
    by_cases hw : Region.wanted o (yielded ops a.tmps) = true
    · rw [if_pos hw] at h ⊢
      obtain ⟨v, h1, h2⟩ := h
      exact ⟨v, h1, soft_mono hm ql _ h2⟩
    · rw [if_neg hw] at h ⊢
      exact soft_mono hm ql _ h

theorem nodup_of {qs ms ts : List Nat} (hB : allOk ops qs ms ts = true) : (qs ++ ms).Nodup := by
  simp only [allOk, Bool.and_eq_true, decide_eq_true_eq] at hB; exact hB.1.2

/-- No block is laid but by callees. -/
theorem any_soft0 {a : Act} {w : World} {l : List Oper} (qs ts : List Nat) (ql tl : List Oper) (hB : allOk l.toArray qs [] ts = true)
    (hql : qs.map (fun i => l.toArray[i]?) = ql.map some) (htl : ts.map (fun i => l.toArray[i]?) = tl.map some)
    (h : wpSoft (upon P) P l.toArray (fun w' => ∃ x : BW w, w' = x.w) (fun a' => ∀ x : BW w, wpList P l.toArray Q tl a' x.w) ql a) : wpAny P .any l.toArray Q l.toArray.size (Array.replicate l.toArray.size false) a { w with drawn := w.drawn + 1 } := by
  rw [bw_class] at h
  refine core_any qs [] ts hB htl (Qt := fun _ a' _ => ∀ x : BW w, wpList P l.toArray Q tl a' x.w) (fun Y a κ w' listed _ hb _ hq => hq ⟨w', hb⟩) ?_
  exact lexV_of_soft (Qy := fun _ a' _ => ∀ x : BW w, wpList P l.toArray Q tl a' x.w) (fun _ _ _ => rfl) qs ql a (fun _ _ => trivial) (nodup_of hB) hql (soft_mono (fun a' h' => ⟨fun _ => ((fun _ => undef), none), h'⟩) ql a h)

/-- What is known of a block that was laid in the region. -/
structure New (w : World) (k : Nat) (obj : Obj) (x : World) : Prop where
  le : w.heap.size ≤ k
  at_ : x.heap[k]? = some obj

theorem New.cell {w x : World} {k : Nat} {c : Array Value} {t : TypeId} {m : Nat × Nat} (h : New w k (.cells c t m) x) (i : Nat) : x.cell? ⟨k, i, none⟩ = c[i]? := by
  simp [World.cell?, h.at_]
theorem New.frozen {w x : World} {k : Nat} {c : Array Value} {t : TypeId} (h : New w k (.cells c t) x) (i : Nat) : x.frozen? ⟨k, i, none⟩ = false := by
  simp [World.frozen?, h.at_]
theorem New.lt {w x : World} {k : Nat} {obj : Obj} (h : New w k obj x) : k < x.heap.size := (Array.getElem?_eq_some_iff.1 h.at_).1

/-- One operation lays a block. -/
theorem any_soft1 {a : Act} {w : World} {l : List Oper} (qs : List Nat) (m : Nat) (ts : List Nat) (ql : List Oper) (om : Oper) (tl : List Oper) (hB : allOk l.toArray qs [m] ts = true)
    (hql : qs.map (fun i => l.toArray[i]?) = ql.map some) (hom : l.toArray[m]? = some om) (hg : om.guard = none) (htl : ts.map (fun i => l.toArray[i]?) = tl.map some)
    (h : wpSoft (upon P) P l.toArray (fun w' => ∃ x : BW w, w' = x.w) (fun a' => ∃ (mk : Nat → Value) (obj : Obj), (∀ x : BW w, (execOp a'.eval om).run P x.w = .ok (.value (mk x.w.heap.size)) (x.w.alloc obj)) ∧
      ∀ (k : Nat) (x : BW w), New w k obj x.w → wpList P l.toArray Q tl (a'.put om.dst (mk k)) x.w) ql a) : wpAny P .any l.toArray Q l.toArray.size (Array.replicate l.toArray.size false) a { w with drawn := w.drawn + 1 } := by
  rw [bw_class] at h
  refine core_any qs [m] ts hB htl (Qt := fun Y a' κ => ∃ obj, (Y m).2 = some obj ∧ ∀ x : BW w, New w (κ m) obj x.w → wpList P l.toArray Q tl a' x.w) (fun Y a κ w' listed hd hb hmd ⟨obj, ho, hq⟩ => ?_) ?_
  · simp only [done, Bool.and_eq_true, List.all_cons, List.all_nil, Bool.and_true] at hd
    obtain ⟨h1, h2⟩ := hmd.at_ m obj hd.2 ho
    exact hq ⟨w', hb⟩ ⟨h1, h2⟩
  · refine lexV_of_soft (rem := [m]) (Qy := fun Y a' κ => ∃ obj, (Y m).2 = some obj ∧ ∀ x : BW w, New w (κ m) obj x.w → wpList P l.toArray Q tl a' x.w) (fun Y Y' hY => by funext a κ; rw [hY m (by simp)]) qs ql a (fun _ _ => trivial) (nodup_of hB) hql (soft_mono (fun a' ⟨mk, obj, h1, h2⟩ => ?_) ql a h)
    exact ⟨fun _ => (mk, some obj), om, hom, trivial, .inl ⟨by simp [Region.wanted, hg], fun w' hw' => h1 ⟨w', hw'⟩⟩, fun k _ => ⟨obj, rfl, fun x hn => h2 k x (by simpa [upd] using hn)⟩⟩

/-- Two operations lay a block each. -/
theorem any_soft2 {a : Act} {w : World} {l : List Oper} (qs : List Nat) (m n : Nat) (ts : List Nat) (ql : List Oper) (om on : Oper) (tl : List Oper) (hB : allOk l.toArray qs [m, n] ts = true)
    (hql : qs.map (fun i => l.toArray[i]?) = ql.map some) (hom : l.toArray[m]? = some om) (hon : l.toArray[n]? = some on) (hg : om.guard = none) (hg' : on.guard = none) (htl : ts.map (fun i => l.toArray[i]?) = tl.map some)
    (h : wpSoft (upon P) P l.toArray (fun w' => ∃ x : BW w, w' = x.w) (fun a' => ∃ (mk : Nat → Value) (obj : Obj) (mk' : Nat → Value) (obj' : Obj), (∀ x : BW w, (execOp a'.eval om).run P x.w = .ok (.value (mk x.w.heap.size)) (x.w.alloc obj)) ∧
      (∀ k (x : BW w), (execOp (a'.put om.dst (mk k)).eval on).run P x.w = .ok (.value (mk' x.w.heap.size)) (x.w.alloc obj')) ∧
      ∀ (k k' : Nat) (x : BW w), k ≠ k' → New w k obj x.w → New w k' obj' x.w → wpList P l.toArray Q tl ((a'.put om.dst (mk k)).put on.dst (mk' k')) x.w) ql a) : wpAny P .any l.toArray Q l.toArray.size (Array.replicate l.toArray.size false) a { w with drawn := w.drawn + 1 } := by
  have hmn : m ≠ n := by have := (List.nodup_append.1 (nodup_of hB)).2.1; simp at this; exact this
  rw [bw_class] at h
  refine core_any qs [m, n] ts hB htl (Qt := fun Y a' κ => ∃ obj obj', (Y m).2 = some obj ∧ (Y n).2 = some obj' ∧ ∀ x : BW w, κ m ≠ κ n → New w (κ m) obj x.w → New w (κ n) obj' x.w → wpList P l.toArray Q tl a' x.w) (fun Y a κ w' listed hd hb hmd ⟨obj, obj', ho, ho', hq⟩ => ?_) ?_
  · simp only [done, Bool.and_eq_true, List.all_cons, List.all_nil, Bool.and_true] at hd
    obtain ⟨h1, h2⟩ := hmd.at_ m obj hd.2.1 ho
    obtain ⟨h3, h4⟩ := hmd.at_ n obj' hd.2.2 ho'
    exact hq ⟨w', hb⟩ (hmd.apart m n hmn hd.2.1 hd.2.2 (by simp [ho]) (by simp [ho'])) ⟨h1, h2⟩ ⟨h3, h4⟩
  · refine lexV_of_soft (rem := [m, n]) (Qy := fun Y a' κ => ∃ obj obj', (Y m).2 = some obj ∧ (Y n).2 = some obj' ∧ ∀ x : BW w, κ m ≠ κ n → New w (κ m) obj x.w → New w (κ n) obj' x.w → wpList P l.toArray Q tl a' x.w) (fun Y Y' hY => by funext a κ; rw [hY m (by simp), hY n (by simp)]) qs ql a (fun _ _ => trivial) (nodup_of hB) hql (soft_mono (fun a' ⟨mk, obj, mk', obj', h1, h1', h2⟩ => ?_) ql a h)
    refine ⟨fun i => if i = m then (mk, some obj) else (mk', some obj'), om, hom, trivial, .inl ⟨by simp [Region.wanted, hg], ?_⟩, fun k _ => ⟨on, hon, trivial, .inl ⟨by simp [Region.wanted, hg'], ?_⟩, fun k' _ => ?_⟩⟩
    · simp only [if_true, gives]; exact fun w' hw' => h1 ⟨w', hw'⟩
    · simp only [if_true, if_neg (Ne.symm hmn), gives]; exact fun w' hw' => h1' k ⟨w', hw'⟩
    · refine ⟨obj, obj', by simp, by simp [Ne.symm hmn], fun x hne hn hn' => ?_⟩
      simp only [if_true, if_neg (Ne.symm hmn)]
      simp [upd, hmn, Ne.symm hmn] at hne hn hn'
      exact h2 k k' x hne hn hn'


/-! ### The same, the lists of operations read off their numbers -/

theorem region0 {id : Nat} {a : Act} {w : World} {l : List Oper} (qs ts : List Nat) (hm : P.follows .mixedOrders = true) (hB : allOk l.toArray qs [] ts = true)
    (hql : qs.map (fun i => l.toArray[i]?) = (pickL l qs).map some) (htl : ts.map (fun i => l.toArray[i]?) = (pickL l ts).map some)
    (h : wpSoft (upon P) P l.toArray (fun w' => ∃ x : BW w, w' = x.w) (fun a' => ∀ x : BW w, wpList P l.toArray Q (pickL l ts) a' x.w) (pickL l qs) a) : (Code.region id l.toArray true).wp P Q a w :=
  wp_region_any hm (any_soft0 qs ts _ _ hB hql htl h)

theorem region1 {id : Nat} {a : Act} {w : World} {l : List Oper} (qs : List Nat) (m : Nat) (ts : List Nat) (om : Oper) (hm : P.follows .mixedOrders = true) (hB : allOk l.toArray qs [m] ts = true)
    (hql : qs.map (fun i => l.toArray[i]?) = (pickL l qs).map some) (hom : l.toArray[m]? = some om) (hg : om.guard = none) (htl : ts.map (fun i => l.toArray[i]?) = (pickL l ts).map some)
    (h : wpSoft (upon P) P l.toArray (fun w' => ∃ x : BW w, w' = x.w) (fun a' => ∃ (mk : Nat → Value) (obj : Obj), (∀ x : BW w, (execOp a'.eval om).run P x.w = .ok (.value (mk x.w.heap.size)) (x.w.alloc obj)) ∧
      ∀ (k : Nat) (x : BW w), New w k obj x.w → wpList P l.toArray Q (pickL l ts) (a'.put om.dst (mk k)) x.w) (pickL l qs) a) : (Code.region id l.toArray true).wp P Q a w :=
  wp_region_any hm (any_soft1 qs m ts _ om _ hB hql hom hg htl h)

theorem region2 {id : Nat} {a : Act} {w : World} {l : List Oper} (qs : List Nat) (m n : Nat) (ts : List Nat) (om on : Oper) (hm : P.follows .mixedOrders = true) (hB : allOk l.toArray qs [m, n] ts = true)
    (hql : qs.map (fun i => l.toArray[i]?) = (pickL l qs).map some) (hom : l.toArray[m]? = some om) (hon : l.toArray[n]? = some on) (hg : om.guard = none) (hg' : on.guard = none) (htl : ts.map (fun i => l.toArray[i]?) = (pickL l ts).map some)
    (h : wpSoft (upon P) P l.toArray (fun w' => ∃ x : BW w, w' = x.w) (fun a' => ∃ (mk : Nat → Value) (obj : Obj) (mk' : Nat → Value) (obj' : Obj), (∀ x : BW w, (execOp a'.eval om).run P x.w = .ok (.value (mk x.w.heap.size)) (x.w.alloc obj)) ∧
      (∀ k (x : BW w), (execOp (a'.put om.dst (mk k)).eval on).run P x.w = .ok (.value (mk' x.w.heap.size)) (x.w.alloc obj')) ∧
      ∀ (k k' : Nat) (x : BW w), k ≠ k' → New w k obj x.w → New w k' obj' x.w → wpList P l.toArray Q (pickL l ts) ((a'.put om.dst (mk k)).put on.dst (mk' k')) x.w) (pickL l qs) a) : (Code.region id l.toArray true).wp P Q a w :=
  wp_region_any hm (any_soft2 qs m n ts _ om on _ hB hql hom hon hg hg' htl h)


/-! ### One edge more: a store that would not wait for an operation that only moves a value -/

def addE (l : List Oper) (i t : Nat) : List Oper := l.modify t (fun o => { o with after := o.after.push ⟨i, .chain⟩ })

theorem addE_get (l : List Oper) (i t j : Nat) : (addE l i t).toArray[j]? = (l.toArray[j]?).map (fun o => if j = t then { o with after := o.after.push ⟨i, .chain⟩ } else o) := by
  simp only [addE, List.getElem?_toArray, List.getElem?_modify]
  by_cases h : t = j
  · subst h; cases l[t]? <;> simp
  · have h' : ¬j = t := fun e => h e.symm
    cases l[j]? <;> simp [h, h']

theorem addE_yielded (l : List Oper) (i t : Nat) : yielded (addE l i t).toArray = yielded l.toArray := by
  funext tmps j
  unfold yielded
  rw [addE_get]
  cases l.toArray[j]? with
  | none => rfl
  | some o => by_cases h : j = t <;> simp [h]

theorem addE_wpOp (l : List Oper) (i t j : Nat) (K : Act → World → Prop) (a : Act) (w : World) : wpOp P (addE l i t).toArray Q j K a w ↔ wpOp P l.toArray Q j K a w := by
  unfold wpOp
  rw [addE_get]
  cases l.toArray[j]? with
  | none => exact Iff.rfl
  | some o =>
    by_cases h : j = t
    · simp only [Option.map_some, if_pos h, addE_yielded]; exact Iff.rfl
    · simp only [Option.map_some, if_neg h, addE_yielded]

theorem addE_ready {l : List Oper} {i t j : Nat} {listed : Array Bool} : j ∈ Region.ready .any (addE l i t).toArray listed ↔ j ∈ Region.ready .any l.toArray listed ∧ (j = t → listed.getD i false = true) := by
  rw [mem_ready, mem_ready, addE_get]
  cases h : l.toArray[j]? with
  | none => simp
  | some o =>
    by_cases hj : j = t
    · simp only [Option.map_some, if_pos hj, Option.some.injEq, exists_eq_left', Array.mem_push]
      constructor
      · rintro ⟨h1, h2⟩
        exact ⟨⟨h1, fun e he hb => h2 e (.inl he) hb⟩, fun _ => h2 ⟨i, .chain⟩ (.inr rfl) rfl⟩
      · rintro ⟨⟨h1, h2⟩, h3⟩
        refine ⟨h1, fun e he hb => ?_⟩
        rcases he with he | he
        · exact h2 e he hb
        · subst he; exact h3 hj
    · simp only [Option.map_some, if_neg hj, Option.some.injEq, exists_eq_left']
      exact ⟨fun h => ⟨h, fun e => absurd e hj⟩, fun h => h.1⟩

/-- An operation is apart from all others but those that it waits for and those that wait for it. -/
def freeE (l : List Oper) (i : Nat) : Bool :=
  match l.toArray[i]? with
  | none => false
  | some oi => (List.range l.length).all fun j => j == i || oi.after.any (fun e => Region.binds .any e && e.on == j) || match l.toArray[j]? with
      | some oj => oj.after.any (fun e => Region.binds .any e && e.on == i) || oi.apart l.toArray oj
      | none => true

theorem freeE_spec {l : List Oper} {i : Nat} {oi : Oper} {listed : Array Bool} (hi : l.toArray[i]? = some oi) (h : freeE l i = true) (hr : i ∈ Region.ready .any l.toArray listed) (j : Nat) (oj : Oper)
    (hj : l.toArray[j]? = some oj) (hne : j ≠ i) (hun : listed.getD j true = false) (hno : ∀ e ∈ oj.after, Region.binds .any e = true → e.on ≠ i) : oi.apart l.toArray oj = true := by
  have hlt := (Array.getElem?_eq_some_iff.1 hj).1
  simp only [freeE, hi, List.all_eq_true, List.mem_range] at h
  have h1 := h j (by simpa using hlt)
  simp only [hj, Bool.or_eq_true, beq_iff_eq, hne, false_or] at h1
  rcases h1 with h1 | h1 | h1
  · obtain ⟨e, he, hb⟩ := Array.any_eq_true'.1 h1
    simp only [Bool.and_eq_true, beq_iff_eq] at hb
    obtain ⟨_, o, ho, hall⟩ := mem_ready.1 hr
    obtain rfl : oi = o := Option.some.inj (hi.symm.trans ho)
    have h2 := hall e he hb.1
    rw [hb.2] at h2
    have h3 := getD_ff hun
    rw [h3] at h2
    cases h2
  · obtain ⟨e, he, hb⟩ := Array.any_eq_true'.1 h1
    simp only [Bool.and_eq_true, beq_iff_eq] at hb
    exact absurd hb.2 (hno e he hb.1)
  · exact h1

theorem wpAny_edge {l : List Oper} {i t : Nat} {oi ot : Oper} (hi : l.toArray[i]? = some oi) (ht : l.toArray[t]? = some ot) (hit : i ≠ t) (hsel : Region.noSelect l.toArray = true)
    (hfree : freeE l i = true)
    (hdeps : (oi.after.all fun e => !(Region.binds .any e) || ot.after.any fun e' => e'.on == e.on && Region.binds .any e') = true)
    (hQ : ∀ v c a w, Q (.panic c) (a.put oi.dst v) w → Q (.panic c) a w)
    (hpure : ∀ (K : Act → World → Prop) a w, wpOp P l.toArray Q i K a w → ∃ v, Yields P l.toArray oi v a ∧ K (a.put oi.dst v) w) :
    ∀ (n : Nat) (listed : Array Bool) (a : Act) (w : World), i < listed.size → wpAny P .any (addE l i t).toArray Q n listed a w → wpAny P .any l.toArray Q n listed a w := by
  have key : ∀ (listed : Array Bool), i < listed.size → i ∉ Region.ready .any l.toArray listed → ∀ j, j ∈ Region.ready .any l.toArray listed → j ∈ Region.ready .any (addE l i t).toArray listed := by
    intro listed hsz hni j hj
    rw [addE_ready]
    refine ⟨hj, fun e => ?_⟩
    subst e
    apply Classical.byContradiction
    intro hnl
    apply hni
    rw [mem_ready] at hj ⊢
    obtain ⟨_, o, ho, hall⟩ := hj
    obtain rfl : ot = o := Option.some.inj (ht.symm.trans ho)
    refine ⟨?_, oi, hi, fun e he hb => ?_⟩
    · simp [hsz] at hnl ⊢; exact hnl
    · have h1 := Array.all_eq_true_iff_forall_mem.1 hdeps e he
      rw [hb, Bool.not_true, Bool.false_or] at h1
      obtain ⟨e', he', h2⟩ := Array.any_eq_true'.1 h1
      simp only [Bool.and_eq_true, beq_iff_eq] at h2
      rw [← h2.1]
      exact hall e' he' h2.2
  intro n
  induction n with
  | zero =>
    intro listed a w hsz ⟨h1, h2⟩
    refine ⟨?_, h2⟩
    by_cases hir : i ∈ Region.ready .any l.toArray listed
    · have : i ∈ Region.ready .any (addE l i t).toArray listed := addE_ready.2 ⟨hir, fun e => absurd e hit⟩
      rw [h1] at this; cases this
    · cases hr : Region.ready .any l.toArray listed with
      | nil => rfl
      | cons j js =>
        have := key listed hsz hir j (by rw [hr]; simp)
        rw [h1] at this; cases this
  | succ n ih =>
    intro listed a w hsz ⟨h1, h2⟩
    have hs' : ∀ j, i < (listed.setIfInBounds j true).size := fun j => by simpa using hsz
    by_cases hir : i ∈ Region.ready .any l.toArray listed
    · have h3 := (addE_wpOp l i t i _ a w).1 (h2 i (addE_ready.2 ⟨hir, fun e => absurd e hit⟩))
      obtain ⟨v, hy, h4⟩ := hpure _ a w (wpOp_mono (fun a' w' h' => ih _ a' w' (hs' i) h') h3)
      exact wpAny_first hi (Region.noSelect_spec hsel) (hQ v) n listed a w (fun j oj hj hne hun hno => freeE_spec hi hfree hir j oj hj hne hun hno) hir hy h4
    · refine ⟨fun h0 => h1 ?_, fun j hj => wpOp_mono (fun a' w' h' => ih _ a' w' (hs' j) h') ((addE_wpOp l i t j _ a w).1 (h2 j (key listed hsz hir j hj)))⟩
      cases hr : Region.ready .any (addE l i t).toArray listed with
      | nil => rfl
      | cons j js =>
        have : j ∈ Region.ready .any l.toArray listed := (addE_ready.1 (by rw [hr]; simp)).1
        rw [h0] at this; cases this


theorem addE_size (l : List Oper) (i t : Nat) : (addE l i t).toArray.size = l.toArray.size := by simp [addE]

/-- The rest of a tuple taken: it yields its value in every world, or it is stuck. -/
theorem extract_pure {l : List Oper} {i : Nat} {oi : Oper} {x : Operand} {k : Nat} (hi : l.toArray[i]? = some oi) (ho : oi.op = .extract x k) (hg : oi.guard = none) (K : Act → World → Prop) (a : Act) (w : World)
    (h : wpOp P l.toArray Q i K a w) : ∃ v, Yields P l.toArray oi v a ∧ K (a.put oi.dst v) w := by
  have hw : Region.wanted oi (yielded l.toArray a.tmps) = true := by simp [Region.wanted, hg]
  unfold wpOp at h
  simp only [hi, hw, if_true] at h
  have key : ¬oi.asks P a w ∧ ((∃ v, ∀ w, (execOp a.eval oi).run P w = .ok (.value v) w) ∨ ∀ K', ¬oi.wp P a w K' Q) := by
    unfold Oper.asks Oper.wp execOp
    rw [ho]
    dsimp only
    generalize a.eval x = y
    cases y
    case tuple vs =>
      unfold Instr.extract
      dsimp only
      cases hv : vs[k]? with
      | some v =>
        refine ⟨?_, .inl ⟨v, fun w => rfl⟩⟩
        rintro ⟨h1, _⟩
        exact absurd h1 (Array.not_mem_empty _)
      | none =>
        refine ⟨?_, .inr fun K' h' => h'⟩
        rintro ⟨h1, _⟩
        exact absurd h1 (Array.not_mem_empty _)
    all_goals
      refine ⟨?_, .inr fun K' h' => h'⟩
      rintro ⟨h1, _⟩
      exact absurd h1 (Array.not_mem_empty _)
  obtain ⟨h0, ⟨v, hv⟩ | h2⟩ := key
  · refine ⟨v, .inl ⟨hw, hv⟩, ?_⟩
    rcases h with h | h
    · unfold Oper.wp at h; rw [hv w] at h; exact h
    · exact absurd h.1 h0
  · rcases h with h | h
    · exact absurd h (h2 _)
    · exact absurd h.1 h0

/-- What is asked of the two operations. -/
def edgeOk (l : List Oper) (i t : Nat) : Bool :=
  Region.noSelect l.toArray && freeE l i && decide (i ≠ t) &&
    match l.toArray[i]?, l.toArray[t]? with
    | some oi, some ot => (oi.after.all fun e => !(Region.binds .any e) || ot.after.any fun e' => e'.on == e.on && Region.binds .any e') && oi.guard.isNone && (match oi.op with | .extract _ _ => true | _ => false)
    | _, _ => false

theorem any_edge {l : List Oper} {i t : Nat} {a : Act} {w : World} (he : edgeOk l i t = true) (hQ : ∀ oi, l.toArray[i]? = some oi → ∀ v c a w, Q (.panic c) (a.put oi.dst v) w → Q (.panic c) a w)
    (h : wpAny P .any (addE l i t).toArray Q (addE l i t).toArray.size (Array.replicate (addE l i t).toArray.size false) a w) : wpAny P .any l.toArray Q l.toArray.size (Array.replicate l.toArray.size false) a w := by
  rw [addE_size] at h
  unfold edgeOk at he
  simp only [Bool.and_eq_true, decide_eq_true_eq] at he
  obtain ⟨⟨⟨h1, h2⟩, h3⟩, h4⟩ := he
  cases hi : l.toArray[i]? with
  | none => rw [hi] at h4; cases h4
  | some oi =>
    cases ht : l.toArray[t]? with
    | none => rw [hi, ht] at h4; cases h4
    | some ot =>
      rw [hi, ht] at h4
      simp only [Bool.and_eq_true, Option.isNone_iff_eq_none] at h4
      obtain ⟨⟨h5, h6⟩, h7⟩ := h4
      have hlt := (Array.getElem?_eq_some_iff.1 hi).1
      cases ho : oi.op <;> rw [ho] at h7 <;> first | cases h7 | skip
      exact wpAny_edge hi ht h3 h1 h2 h5 (hQ oi hi) (fun K a w hh => extract_pure hi ho h6 K a w hh) _ _ a w (by simpa using hlt) h

theorem bodyPost_put {P : Program} {fn : Func} {R : Ending → World → Prop} {c : List PanicEntry} {a : Act} {d : Option Tmp} {v : Value} {w : World} (h : bodyPost P fn R (.panic c) (a.put d v) w) : bodyPost P fn R (.panic c) a w := by
  cases d <;> exact h

theorem region1e {id : Nat} {a : Act} {w : World} {l : List Oper} (i t : Nat) (qs : List Nat) (m : Nat) (ts : List Nat) (om : Oper) (hm : P.follows .mixedOrders = true) (he : edgeOk l i t = true)
    (hQ : ∀ oi, l.toArray[i]? = some oi → ∀ v c a w, Q (.panic c) (a.put oi.dst v) w → Q (.panic c) a w) (hB : allOk (addE l i t).toArray qs [m] ts = true)
    (hql : qs.map (fun z => (addE l i t).toArray[z]?) = (pickL (addE l i t) qs).map some) (hmt : m ≠ t) (hom : l.toArray[m]? = some om) (hg : om.guard = none) (htl : ts.map (fun z => (addE l i t).toArray[z]?) = (pickL (addE l i t) ts).map some)
    (h : wpSoft (upon P) P (addE l i t).toArray (fun w' => ∃ x : BW w, w' = x.w) (fun a' => ∃ (mk : Nat → Value) (obj : Obj), (∀ x : BW w, (execOp a'.eval om).run P x.w = .ok (.value (mk x.w.heap.size)) (x.w.alloc obj)) ∧
      ∀ (k : Nat) (x : BW w), New w k obj x.w → wpList P (addE l i t).toArray Q (pickL (addE l i t) ts) (a'.put om.dst (mk k)) x.w) (pickL (addE l i t) qs) a) : (Code.region id l.toArray true).wp P Q a w :=
  wp_region_any hm (any_edge he hQ (any_soft1 qs m ts _ om _ hB hql (by rw [addE_get, hom]; simp [hmt]) hg htl h))

/-! ### Inside a fence: the operations ahead of the tail call nothing -/

def upon0 (w : World) (v : Value) : Result Next → Prop
  | .ok (.value u) w' => w' = w ∧ u = v
  | .ok .skip w' => w' = w ∧ v = undef
  | _ => False

def plainOp (ops : Array Oper) (i : Nat) : Bool := match ops[i]? with
  | some o => match o.op with
    | .call _ | .defer _ => false
    | _ => true
  | none => false

theorem about_plain {i : Nat} {o : Oper} {w : World} {ρ : Operand → Value} (hi : ops[i]? = some o) (h : plainOp ops i = true) : o.about P w ρ = none ∧ ∀ c, o.op ≠ .defer c := by
  unfold plainOp at h
  simp only [hi] at h
  unfold Oper.about
  cases ho : o.op <;> simp_all

theorem seq_wpIn {F : Fence} {n : Nat} : ∀ (ts : List Nat) (tl : List Oper) (listed : Array Bool) (a : Act) (w : World), ts.map (fun i => ops[i]?) = tl.map some → seqT ops ts listed = true → wpListIn F n P ops Q tl a w → wpAnyIn F n P .any ops Q ts.length listed a w
  | [], [], _, _, _, _, hB, h => ⟨by simpa [seqT] using hB, h⟩
  | [], _ :: _, _, _, _, hq, _, _ => by simp at hq
  | _ :: _, [], _, _, _, hq, _, _ => by simp at hq
  | t :: ts, o :: tl, listed, a, w, hq, hB, h => by
    simp only [List.map_cons, List.cons.injEq] at hq
    simp only [seqT, Bool.and_eq_true, decide_eq_true_eq] at hB
    refine ⟨fun h1 => (by rw [hB.1] at h1; cases h1), fun i hi => ?_⟩
    rw [hB.1] at hi
    obtain rfl : i = t := by simpa using hi
    have hw : wpOpIn F n P ops Q i (wpListIn F n P ops Q tl) a w := by unfold wpOpIn; simp only [hq.1]; exact h
    exact wpOpIn_mono (fun a' w' h' => seq_wpIn ts tl _ a' w' hq.2 hB.2 h') hw

theorem any_wpIn {F : Fence} {n : Nat} {w : World} {tl : List Oper} (hq : ts.map (fun i => ops[i]?) = tl.map some) (hY : ∀ i, (Y i).2 = none)
    (hQ : ∀ a κ, Qt a κ → wpListIn F n P ops Q tl a w) : ∀ (f : Nat) (listed : Array Bool) (a : Act) (κ : Nat → Nat),
    anyV (fun i => plainOp ops i = true) upon0 P ops (· = w) Y [] ts Qt f listed a κ → wpAnyIn F n P .any ops Q (f + ts.length) listed a w
  | 0, listed, a, κ, h => by
    rw [Nat.zero_add]
    have h1 := h.1
    simp only [done, Bool.and_eq_true] at h1
    exact seq_wpIn ts tl listed a w hq h1.1 (hQ a κ h.2)
  | f + 1, listed, a, κ, h => by
    rw [show f + 1 + ts.length = (f + ts.length) + 1 by omega]
    refine ⟨fun h0 => absurd h0 h.1, fun i hi => ?_⟩
    obtain ⟨o, ho, hg, hy, hc⟩ := h.2 i hi
    have go := any_wpIn hq hY hQ f _ _ _ (hc 0 (fun _ => rfl))
    obtain ⟨hab, hde⟩ := about_plain (P := P) (w := w) (ρ := a.eval) ho hg
    unfold wpOpIn
    simp only [ho]
    rcases hy with ⟨hw, hgv⟩ | ⟨hw, h0, hn⟩
    · rw [if_pos hw]
      unfold gives at hgv
      rw [hY i] at hgv
      have h3 := hgv w rfl
      refine ⟨fun f' hf' => (by rw [hab] at hf'; cases hf'), ?_⟩
      rw [Oper.semAt_eq _ _ _ hde]
      generalize (execOp a.eval o).run P w = r at *
      cases r with
      | ok x w' =>
        cases x <;> simp only [upon0] at h3 <;> simp only [Oper.uponIn]
        case value u => obtain ⟨e1, e2⟩ := h3; rw [e1, e2]; exact go
        case skip => obtain ⟨e1, e2⟩ := h3; rw [e1, ← e2]; exact go
      | halt x w' => simp only [upon0] at h3
    · rw [if_neg (by simp [hw]), ← h0]
      exact ⟨fun f' hf' => (by rw [hab] at hf'; cases hf'), go⟩

theorem lexV_none {rem : List Nat} {κ : Nat → Nat} {Qt : Act → (Nat → Nat) → Prop} : ∀ (qs : List Nat) (ql : List Oper) (a : Act), (∀ i ∈ qs, G i) → qs.Nodup → qs.map (fun i => ops[i]?) = ql.map some →
    wpSoft U P ops C (fun a' => Qt a' κ) ql a → ∃ Y : Nat → Yd, (∀ i, (Y i).2 = none) ∧ lexV G U P ops C Y Qt qs a κ
  | [], [], _, _, _, _, h => ⟨fun _ => ((fun _ => undef), none), fun _ => rfl, h⟩
  | [], _ :: _, _, _, _, hq, _ => by simp at hq
  | _ :: _, [], _, _, _, hq, _ => by simp at hq
  | i :: qs, o :: ql, a, hG, hn, hq, h => by
    have hG' : ∀ j ∈ qs, G j := fun j hj => hG j (by simp [hj])
    simp only [List.map_cons, List.cons.injEq] at hq
    rw [List.nodup_cons] at hn
    have main : ∀ v, (∃ Y : Nat → Yd, (∀ i, (Y i).2 = none) ∧ lexV G U P ops C Y Qt qs (a.put o.dst v) κ) → yields U P ops C o ((fun _ => v), none) a → ∃ Y : Nat → Yd, (∀ i, (Y i).2 = none) ∧ lexV G U P ops C Y Qt (i :: qs) a κ := fun v ⟨Y, hN, hY⟩ hy => by
      refine ⟨fun x => if x = i then ((fun _ => v), none) else Y x, fun x => by by_cases hx : x = i <;> simp [hx, hN], o, hq.1, hG i (by simp), by simpa using hy, fun k _ => ?_⟩
      simp only [if_true]
      have e : upd ((fun _ => v), none) κ i k = κ := by funext x; simp [upd]
      rw [e]
      exact lexV_congr _ _ _ (fun j hj => by have hne : j ≠ i := fun h => hn.1 (h ▸ hj); simp only [if_neg hne]) hY
    unfold wpSoft at h
    by_cases hw : Region.wanted o (yielded ops a.tmps) = true
    · rw [if_pos hw] at h
      obtain ⟨v, hv, hK⟩ := h
      exact main v (lexV_none (rem := rem) qs ql _ hG' hn.2 hq.2 hK) (.inl ⟨hw, hv⟩)
    · rw [if_neg hw] at h
      exact main undef (lexV_none (rem := rem) qs ql _ hG' hn.2 hq.2 h) (.inr ⟨by simpa using hw, rfl, rfl⟩)

theorem region_in {F : Fence} {n : Nat} {id : Nat} {a : Act} {w : World} {l : List Oper} (qs ts : List Nat) (hm : P.follows .mixedOrders = true) (hB : (allOk l.toArray qs [] ts && qs.all (plainOp l.toArray)) = true)
    (hql : qs.map (fun i => l.toArray[i]?) = (pickL l qs).map some) (htl : ts.map (fun i => l.toArray[i]?) = (pickL l ts).map some)
    (h : wpSoft upon0 P l.toArray (· = w.drew) (fun a' => wpListIn F n P l.toArray Q (pickL l ts) a' w.drew) (pickL l qs) a) : (Code.region id l.toArray true).wpIn F n P Q a w := by
  rw [Bool.and_eq_true] at hB
  obtain ⟨hB, hpl⟩ := hB
  have hnd := nodup_of hB
  rw [List.append_nil] at hnd
  simp only [allOk, Bool.and_eq_true, decide_eq_true_eq, List.append_nil] at hB
  obtain ⟨⟨⟨⟨hs, ht⟩, hl⟩, _⟩, hsz⟩ := hB
  obtain ⟨Y, hN, hY⟩ := lexV_none (rem := []) (κ := fun _ => 0) (G := fun i => plainOp l.toArray i = true) (Qt := fun a' _ => wpListIn F n P l.toArray Q (pickL l ts) a' w.drew) qs _ a (fun i hi => List.all_eq_true.1 hpl i hi) hnd hql h
  have hcl : Closed l.toArray (Array.replicate l.toArray.size false) := fun j oj _ hl' => (by rw [getD_replicate_false] at hl'; cases hl')
  have H := lexV_any (ms := []) ht hs qs _ a _ (fun _ h => h) hcl hl hY
  refine wpIn_region_any hm ?_
  have := any_wpIn (Q := Q) (F := F) (n := n) htl hN (fun a' _ h' => h') _ _ _ _ H
  rwa [← hsz] at this

end
end Go.Soft
