/-
  hold: what candidates yields.
  Conditions: each theorem's own premises.
-/
import Derived.Test.YtbjdgaeikihjbaaEarl
namespace Go.Proofs.Ytbjdgaeikihjbaa
set_option linter.unusedSimpArgs false
set_option linter.unusedVariables false
open Go.RowKit Go.Shelf
set_option maxRecDepth 100000
set_option maxHeartbeats 2000000
attribute [local go_sem] Instr.field asAgg Soft.upon Soft.BW.cell_if Soft.BW.frozen_if Soft.cell_alloc_if Soft.frozen_alloc_if Oper.semAt_some Soft.upon0

def encI (x : Int) : Array Value := #[.int .i64 x]

theorem candK_len (ps : List Pt) (r : Rg) : ∀ k, (candK ps r k).length ≤ k + 1
  | 0 => by simp [candK]
  | k + 1 => by
    have := candK_len ps r k
    unfold candK
    split
    · simp; omega
    · omega

theorem cands1_in (F : Fence) (m : Nat) (h7 : F.fn 123) (hro : F.round = none) (hm : 1 ≤ m) (l Bt Br n₀ b off len cap : Nat) (ps : List Pt) (r : Rg) (hlen : ps.length = len) (hreach : len ≤ 1000) (hb : b < n₀) (Kp : World → World → Prop) (hKr : ∀ A B, Below n₀ A B → Kp A B) (hKt : ∀ A B C, Kp A B → Kp B C → Kp A C) (hKs : ∀ A B, Kp A B → A.heap.size ≤ B.heap.size) (hKc : ∀ A B, Kp A B → ∀ p : Addr, (p.block = Bt ∨ p.block = Br ∨ p.block = b) → B.cell? p = A.cell? p) (J Jx : List Int → World → Prop)
    (hY : ∀ pre x W, J pre W → pre.length < len + 2 → YieldAt F (m - 1) Try.prog l (encI x) W fun e W' =>
      (e = .returned (.bool true) ∧ J (pre ++ [x]) W' ∧ Kp W W') ∨ (e = .returned (.bool false) ∧ Jx (pre ++ [x]) W'))
    (hJ : ∀ s A B, J s A → Below A.heap.size A B → J s B)
    (W : World) (hBt : W.cell? ⟨Bt, 0, none⟩ = some (.slice (some ⟨b, off, none⟩) len cap)) (hr0 : W.cell? ⟨Br, 0, none⟩ = some (.int .i64 r.lo)) (hr1 : W.cell? ⟨Br, 1, none⟩ = some (.int .i64 r.hi)) (_hBn : Bt < n₀) (_hRn : Br < n₀) (hn : n₀ ≤ W.heap.size)
    (hc : ∀ i, i < len → W.cell? ⟨b, off + i * 3, none⟩ = some (.int .i64 (pt ps i).x) ∧ W.cell? ⟨b, off + i * 3 + 1, none⟩ = some (.int .i64 (pt ps i).lo) ∧ W.cell? ⟨b, off + i * 3 + 2, none⟩ = some (.int .i64 (pt ps i).hi)) (h0 : J [] W) :
    CallsIn F m Try.prog 123 #[.func (.yield l) #[] #[], .pointer (some ⟨Br, 0, none⟩), .pointer (some ⟨Bt, 0, none⟩)] W fun e W' => (∃ v, e = .returned v) ∧
      ((∃ ys, ys = candS ps r ∧ J ys W') ∨ (∃ pre, True ∧ Jx pre W')) := by
  refine callsIn_of_wp Try.func123 rfl h7 ?_ hro
  simp only [Try.ntmps123, List.size_toArray, List.length_cons, List.length_nil, Nat.reduceAdd, Nat.reduceSub, Array.replicate_succ, Array.replicate_zero, List.push_toArray, List.append_toArray, List.nil_append, List.cons_append]
  obtain ⟨fn, tmps, assign, body, hy, hR⟩ := hY [] r.lo _ h0 (by simp)
  simp only [encI] at hy
  have HLEN := Lib.hid hlen; clear hlen
  gi_wp2
  refine hR.mono ?_
  rintro e W0 (⟨rfl, hJ0, hk0⟩ | ⟨rfl, hJx0⟩)
  · have t0 := (hKc _ _ hk0 ⟨Bt, 0, none⟩ (.inl rfl)).trans hBt
    have hk0s := hKs _ _ hk0
    gi_wp2
    gi_loopw [5, 14] (fun _ i wr => ∃ k : Nat, k ≤ len ∧ i = .int .i64 k ∧ J (candK ps r k) wr ∧ Kp W wr) (fun _ i _ => len - (intOf i).toNat)
    case atStart => exact ⟨0, Nat.zero_le _, rfl, hJ0, hk0⟩
    case round =>
      obtain ⟨k, hk, rfl, hJs, hB⟩ := hrel
      have HB := Lib.hid hB
      have s0 := (hKc _ _ hB ⟨Br, 0, none⟩ (.inr (.inl rfl))).trans hr0
      have s1 := (hKc _ _ hB ⟨Br, 1, none⟩ (.inr (.inl rfl))).trans hr1
      have hBsz := hKs _ _ hB
      have lR := Soft.LtH.mk (b := Br) (w := wr) (by omega)
      by_cases hlt : k < len
      · obtain ⟨a1, a2, a3⟩ := hc k hlt
        have c1 := (hKc _ _ hB ⟨b, off + k * 3, none⟩ (.inr (.inr rfl))).trans a1
        have c2 := (hKc _ _ hB ⟨b, off + k * 3 + 1, none⟩ (.inr (.inr rfl))).trans a2
        have c3 := (hKc _ _ hB ⟨b, off + k * 3 + 2, none⟩ (.inr (.inr rfl))).trans a3
        have lb := Soft.LtH.mk (b := b) (w := wr) (by omega)
        have i1 : (k : Int) < len := by omega
        have hB2 : Below n₀ wr (wr.alloc (.cells #[.int .i64 (pt ps k).x, .int .i64 (pt ps k).lo, .int .i64 (pt ps k).hi] 114)) := (Below.refl _ _).alloc (by omega) _
        have hJ2 : J (candK ps r k) (wr.alloc (.cells #[.int .i64 (pt ps k).x, .int .i64 (pt ps k).lo, .int .i64 (pt ps k).hi] 114)) := hJ _ _ _ hJs ((Below.refl _ _).alloc (Nat.le_refl _) _)
        have HB2 := Lib.hid hB2
        have HJ2 := Lib.hid hJ2
        clear hB hB2 hJ2 a1 a2 a3 hc hy hR s0 s1
        have s0 := (hKc _ _ HB.out ⟨Br, 0, none⟩ (.inr (.inl rfl))).trans hr0
        have s1 := (hKc _ _ HB.out ⟨Br, 1, none⟩ (.inr (.inl rfl))).trans hr1
        by_cases q1 : r.lo < (pt ps k).x
        · by_cases q2 : (pt ps k).x < r.hi
          · have HN := Lib.hid (show candK ps r (k + 1) = candK ps r k ++ [(pt ps k).x] from if_pos ⟨q1, q2⟩)
            obtain ⟨fn, tmps, assign, body, hy, hR⟩ := hY _ (pt ps k).x _ HJ2.out (by have := candK_len ps r k; omega)
            simp only [encI] at hy
            generalize pt ps k = q at *
            gi_wp2
            refine hR.mono ?_
            rintro e W3 (⟨rfl, hJ3, hk3⟩ | ⟨rfl, hJx3⟩)
            · gi_wp2
              go_roundw
              case rel => exact ⟨k + 1, by omega, by simp, by rw [HN.out]; exact hJ3, hKt _ _ _ HB.out (hKt _ _ _ (hKr _ _ HB2.out) hk3)⟩
              case measure => simp [intOf]; omega
            · gi_wp2
              refine bodyPost_ret (results_none rfl _ _ _) rfl ?_
              exact ⟨⟨_, rfl⟩, .inr ⟨_, trivial, hJx3⟩⟩
          · have HN := Lib.hid (show candK ps r (k + 1) = candK ps r k from if_neg (fun h => q2 h.2))
            generalize pt ps k = q at *
            gi_wp2
            refine ⟨fun f hf => (by cases hf), ?_⟩
            gi_wp2
            go_roundw
            case rel => exact ⟨k + 1, by omega, by simp, by rw [HN.out]; exact hJ _ _ _ hJs ((Below.refl _ _).alloc (Nat.le_refl _) _), hKt _ _ _ HB.out (hKr _ _ HB2.out)⟩
            case measure => simp [intOf]; omega
        · have HN := Lib.hid (show candK ps r (k + 1) = candK ps r k from if_neg (fun h => q1 h.1))
          generalize pt ps k = q at *
          gi_wp2
          refine ⟨fun f hf => (by cases hf), ?_⟩
          gi_wp2
          go_roundw
          case rel => exact ⟨k + 1, by omega, by simp, by rw [HN.out]; exact hJ _ _ _ hJs ((Below.refl _ _).alloc (Nat.le_refl _) _), hKt _ _ _ HB.out (hKr _ _ HB2.out)⟩
          case measure => simp [intOf]; omega
      · obtain rfl : k = len := by omega
        clear hB
        have HC : Hid (candS ps r = candK ps r k ++ [r.hi]) := Lib.hid (by unfold candS; rw [HLEN.out])
        obtain ⟨fn, tmps, assign, body, hy, hR⟩ := hY _ r.hi _ hJs (by have := candK_len ps r k; omega)
        simp only [encI] at hy
        gi_wp2
        refine hR.mono ?_
        rintro e W3 (⟨rfl, hJ3, hk3⟩ | ⟨rfl, hJx3⟩)
        · gi_wp2
          exact ⟨rfl, _, results_none rfl _ _ _, ⟨⟨_, rfl⟩, .inl ⟨_, HC.out.symm, hJ3⟩⟩⟩
        · gi_wp2
          exact ⟨rfl, _, results_none rfl _ _ _, ⟨⟨_, rfl⟩, .inr ⟨_, trivial, hJx3⟩⟩⟩
  · gi_wp2
    refine bodyPost_ret (results_none rfl _ _ _) rfl ?_
    exact ⟨⟨_, rfl⟩, .inr ⟨_, trivial, hJx0⟩⟩

theorem cands_in (F : Fence) (m : Nat) (h5 : F.fn 85) (hro : F.round = none) (a : Option Addr) (len cap : Nat) (r : Rg) (w : World) :
    CallsIn F m Try.prog 85 #[.agg #[.slice a len cap], .agg #[.int .i64 (r).lo, .int .i64 (r).hi]] w fun e w' => e = .returned (.func (.func 123) #[] #[.pointer (some ⟨w.heap.size + 1, 0, none⟩), .pointer (some ⟨w.heap.size, 0, none⟩)]) ∧ w' = (w.alloc (.cells #[.slice a len cap] 33)).alloc (.cells #[.int .i64 (r).lo, .int .i64 (r).hi] 30) := by
  refine callsIn_of_wp Try.func85 rfl h5 ?_ hro
  simp only [Try.ntmps85, List.size_toArray, List.length_cons, List.length_nil, Nat.reduceAdd, Nat.reduceSub, Array.replicate_succ, Array.replicate_zero, List.push_toArray, List.append_toArray, List.nil_append, List.cons_append]
  gi_wp2
  go_ret
  exact ⟨rfl, rfl⟩

theorem cands_stops (F : Fence) (m : Nat) (h7 : F.fn 123) (hro : F.round = none) (hm : 1 ≤ m) (Bt Br n₀ : Nat) (Kp : World → World → Prop) (hKr : ∀ A B, Below n₀ A B → Kp A B) (hKt : ∀ A B C, Kp A B → Kp B C → Kp A C) (hKs : ∀ A B, Kp A B → A.heap.size ≤ B.heap.size) (t : Tb) (r : Rg) (w : World) (ht : t.At w) (hok : TabOk t.ps) (hBs : Bt < n₀) (hRs : Br < n₀) (hn₀ : n₀ ≤ w.heap.size) (hb : ∀ b o, t.p = some ⟨b, o, none⟩ → b < n₀)
    (hKc : ∀ A B, Kp A B → ∀ p : Addr, (p.block = Bt ∨ p.block = Br ∨ ∃ o, t.p = some ⟨p.block, o, none⟩) → B.cell? p = A.cell? p) (hc : w.cell? ⟨Bt, 0, none⟩ = some (.slice t.p t.n t.c)) (hr0 : w.cell? ⟨Br, 0, none⟩ = some (.int .i64 r.lo)) (hr1 : w.cell? ⟨Br, 1, none⟩ = some (.int .i64 r.hi)) :
    SeqStopsK F m Try.prog 123 #[.pointer (some ⟨Br, 0, none⟩), .pointer (some ⟨Bt, 0, none⟩)] encI Kp (fun ys => ys = candS t.ps r) (fun _ => True) (t.n + 2) w := fun l J Jx W hW hJ _ hY h0 => by
  have hJ' : ∀ s A B, J s A → Below A.heap.size A B → J s B := fun s A B hs hAB => hJ s A B none hs ⟨hAB.os, hAB.tape, hAB.output, hAB.size, fun k hk _ => hAB.block k hk⟩ (fun r e => by cases e)
  have hc' := (hW.cell (p := ⟨Bt, 0, none⟩) (Nat.lt_of_lt_of_le hBs hn₀)).trans hc
  have hr0' := (hW.cell (p := ⟨Br, 0, none⟩) (Nat.lt_of_lt_of_le hRs hn₀)).trans hr0
  have hr1' := (hW.cell (p := ⟨Br, 1, none⟩) (Nat.lt_of_lt_of_le hRs hn₀)).trans hr1
  have ht' := ht.same hW
  have hpos := hok.pos
  have hle := hok.le
  obtain ⟨h1, h2, h3, h4, h5⟩ := ht'
  obtain ⟨b, o, hp', hlt, hcs⟩ := h5 (by omega)
  have hbn := hb b o hp'
  rw [hp'] at hc'
  exact cands1_in F m h7 hro hm l Bt Br n₀ b o t.n t.c t.ps r h1 (by omega) hbn Kp hKr hKt hKs (fun A B hk p hp => hKc A B hk p (by rcases hp with h | h | h; exact .inl h; exact .inr (.inl h); exact .inr (.inr ⟨o, by rw [h]; exact hp'⟩))) J Jx hY hJ' W hc' hr0' hr1' hBs hRs (Nat.le_trans hn₀ hW.size) hcs h0

end Go.Proofs.Ytbjdgaeikihjbaa
