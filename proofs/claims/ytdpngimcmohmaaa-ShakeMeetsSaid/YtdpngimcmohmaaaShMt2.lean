/- What two that meet say, round by round: lemmas alone. -/
import Derived.Test.YtdpngimcmohmaaaShMt
namespace Go.Proofs.Ytdpngimcmohmaaa
open Go.RowKit
/-- one end's half of a round, as far as it came: what it took stands in l1 -/
def Part (i o : Nat) (e : Nat → ShS) (Q : Nat → List Msg) (e' : Nat → ShS) (Q' : Nat → List Msg) (l1 : List Msg) : Prop :=
  Q i = l1 ++ Q' i ∧ e' i = (pFold (pTick (e i)).1 l1).1 ∧ e' o = e o ∧ Q' o = (Q o ++ (pTick (e i)).2) ++ (pFold (pTick (e i)).1 l1).2
/-- one end's half of a round -/
def Half (i o : Nat) (e : Nat → ShS) (Q : Nat → List Msg) (e' : Nat → ShS) (Q' : Nat → List Msg) : Prop :=
  e' i = (pFold (pTick (e i)).1 (Q i)).1 ∧ e' o = e o ∧ Q' i = [] ∧ Q' o = (Q o ++ (pTick (e i)).2) ++ (pFold (pTick (e i)).1 (Q i)).2
set_option maxRecDepth 100000 in
theorem Part.start {i o : Nat} (hio : o ≠ i) (e : Nat → ShS) (Q : Nat → List Msg) : Part i o e Q (upd e i (pTick (e i)).1) (upd Q o (Q o ++ (pTick (e i)).2)) [] := by
  refine ⟨?_, ?_, ?_, ?_⟩
  · rw [upd_ne _ _ (Ne.symm hio)]; rfl
  · rw [upd_same]; rfl
  · rw [upd_ne _ _ hio]
  · rw [upd_same]; simp [pFold]
set_option maxRecDepth 100000 in
theorem Part.start0 {i o : Nat} (hio : o ≠ i) (e : Nat → ShS) (Q : Nat → List Msg) (h : (pTick (e i)).2 = []) : Part i o e Q (upd e i (pTick (e i)).1) Q [] := by
  refine ⟨rfl, ?_, ?_, ?_⟩
  · rw [upd_same]; rfl
  · rw [upd_ne _ _ hio]
  · rw [h]; simp [pFold]
set_option maxRecDepth 100000 in
theorem Part.next {i o : Nat} (hio : o ≠ i) {e e' : Nat → ShS} {Q Q' Q2 : Nat → List Msg} {l1 l : List Msg} {m : Msg} (h : Part i o e Q e' Q' l1) (hm : Q' i = m :: l) (h2 : Q2 i = l) (h3 : Q2 o = Q' o ++ (pTake (e' i) m).2) :
    Part i o e Q (upd e' i (pTake (e' i) m).1) Q2 (l1 ++ [m]) := by
  obtain ⟨a, b, c, d⟩ := h
  refine ⟨?_, ?_, ?_, ?_⟩
  · rw [a, hm, h2]; simp
  · rw [upd_same, pFold_snoc, b]
  · rw [upd_ne _ _ hio, c]
  · rw [h3, d, b, pFold_snoc]; simp
set_option maxRecDepth 100000 in
theorem Part.end {i o : Nat} {e e' : Nat → ShS} {Q Q' : Nat → List Msg} {l1 : List Msg} (h : Part i o e Q e' Q' l1) (hn : Q' i = []) : Half i o e Q e' Q' := by
  obtain ⟨a, b, c, d⟩ := h
  rw [hn, List.append_nil] at a
  subst a
  exact ⟨b, c, hn, d⟩
/-- a round, as far as it came -/
def Stage (e : Nat → ShS) (Q : Nat → List Msg) : Nat → (Nat → ShS) → (Nat → List Msg) → Prop
  | 0, e', Q' => e' = e ∧ Q' = Q
  | k + 1, e', Q' => ∃ em Qm, Stage e Q k em Qm ∧ Half k (1 - k) em Qm e' Q'
/-- what holds ahead of round n -/
structure RInv (n : Nat) (e : Nat → ShS) (Q : Nat → List Msg) : Prop where
  g0 : ShG (e 0)
  g1 : ShG (e 1)
  x : PX (54 - (n : Int)) (e 0) (Q 0)
  y : PY (54 - (n : Int)) (e 1) (Q 0)
  b : 10 * ((Q 0).length + (Q 1).length : Int) + (e 0).q + (e 1).q ≤ 638 + 2 * n
set_option maxRecDepth 100000 in
theorem RInv.next {n : Nat} {e e' : Nat → ShS} {Q Q' : Nat → List Msg} (h : RInv n e Q) (hs : Stage e Q 2 e' Q') : RInv (n + 1) e' Q' := by
  obtain ⟨em, Qm, ⟨e0, Q0, ⟨rfl, rfl⟩, a1, a2, a3, a4⟩, b1, b2, b3, b4⟩ := hs
  simp only [Nat.sub_self, Nat.sub_zero] at *
  have := meet_round h.g0 h.g1 h.x h.y h.b
  simp only at this
  obtain ⟨c1, c2, c3, c4, c5⟩ := this
  rw [a2] at b1 b4
  rw [a4] at b1 b4
  rw [a3, List.nil_append] at b4
  rw [← b4, ← a1] at c3
  rw [← b1] at c2
  rw [← b4, ← b1] at c4
  rw [← b4, ← a1, ← b1] at c5
  rw [← a1] at c1
  have hn : 54 - ((n + 1 : Nat) : Int) = 54 - (n : Int) - 1 := by omega
  refine ⟨?_, ?_, ?_, ?_, ?_⟩
  · rw [b2]; exact c1
  · exact c2
  · rw [b2, hn]; exact c3
  · rw [hn]; exact c4
  · rw [b2, b3]; simp only [List.length_nil]; omega
set_option maxRecDepth 100000 in
theorem RInv.start {e : Nat → ShS} {Q : Nat → List Msg} (h0 : ShG (e 0)) (h1 : ShG (e 1)) (r0 : 0 ≤ (e 0).rd) (r1 : 0 ≤ (e 1).rd) (hq : (Q 0).length + (Q 1).length ≤ 62) : RInv 0 e Q :=
  ⟨h0, h1, PX_start h0 r0 _, PY_start h1 r1 _, by have := h0.q9; have := h1.q9; omega⟩
set_option maxRecDepth 100000 in
theorem RInv.len {n : Nat} {e : Nat → ShS} {Q : Nat → List Msg} (h : RInv n e Q) (hn : n ≤ 120) : (Q 0).length + (Q 1).length ≤ 87 := by
  have := h.b
  have := h.g0.q0
  have := h.g1.q0
  omega
set_option maxRecDepth 100000 in
theorem Part.len {i o : Nat} {e e' : Nat → ShS} {Q Q' : Nat → List Msg} {l1 : List Msg} (h : Part i o e Q e' Q' l1) : l1.length ≤ (Q i).length := by
  rw [h.1, List.length_append]; omega
set_option maxRecDepth 100000 in
theorem mt_state {w wr : World} {t7 t8 : Nat} {p : Nat → Nat} {e : Nat → ShS} {v : Nat → Value} {Q : Nat → List Msg} (h : MtAt w wr t7 t8 p e v Q) {j : Nat} (hj : j < 2) : wr.cell? ⟨p j, 0, none⟩ = some (.int .i64 (e j).st) := (cell_of_block (h.sh j hj)).trans rfl
end Go.Proofs.Ytdpngimcmohmaaa
