/- Two that meet, in plain terms: what they say to each other, and that both come to run. No walk. -/
import Derived.Test.YtdpngimcmohmaaaShPlain
namespace Go.Proofs.Ytdpngimcmohmaaa
open Go.RowKit
/-- a message: a question's number, an answer's -/
abbrev Msg := Int × Int
def pTick (s : ShS) : ShS × List Msg := ((shTick s).1, if (shTick s).2.2 then [(shTick s).2.1.2] else [])
def pTake (s : ShS) (m : Msg) : ShS × List Msg := ((shTake s 1 m.1 m.2).1, if (shTake s 1 m.1 m.2).2.2.1 then [(shTake s 1 m.1 m.2).2.1.2] else [])
def pFold : ShS → List Msg → ShS × List Msg
  | s, [] => (s, [])
  | s, m :: l => ((pFold (pTake s m).1 l).1, (pTake s m).2 ++ (pFold (pTake s m).1 l).2)
set_option maxRecDepth 100000 in
theorem pFold_snoc (l : List Msg) (m : Msg) : ∀ s, pFold s (l ++ [m]) = ((pTake (pFold s l).1 m).1, (pFold s l).2 ++ (pTake (pFold s l).1 m).2) := by
  induction l with
  | nil => intro s; simp [pFold]
  | cons a l ih => intro s; simp [pFold, ih]
def shAlive (s : ShS) : Prop := s.st = 1 ∨ s.st = 2
set_option maxRecDepth 100000 in
theorem tokZ_ne (a b : Int) : tokZ a b ≠ 0 := by
  unfold tokZ
  split
  · decide
  · assumption
set_option maxRecDepth 100000 in
theorem pTick_run {s : ShS} (h : s.st = 2) : pTick s = (s, []) := by
  unfold pTick shTick
  rw [if_pos (by omega)]
  rfl
set_option maxRecDepth 100000 in
theorem pTick_wait {s : ShS} (h : s.st = 1) (hq : s.q + 1 < 10) : pTick s = ({ s with q := s.q + 1 }, []) := by
  unfold pTick shTick
  rw [if_neg (by omega), if_pos hq]
  rfl
set_option maxRecDepth 100000 in
theorem pTick_ask {s : ShS} (h : s.st = 1) (hq : ¬ s.q + 1 < 10) : pTick s = ({ s with k := s.k + 1, q := 0 }, [(tokZ s.own s.rd, 0)]) := by
  unfold pTick shTick
  rw [if_neg (by omega), if_neg hq]
  rfl
set_option maxRecDepth 100000 in
theorem pTake_q {s : ShS} (h : shAlive s) (m : Msg) (hm : m.1 ≠ 0) : pTake s m = ({ s with peer := m.1 }, [(0, m.1)]) := by
  have h1 : ¬ (s.st ≠ 1 ∧ s.st ≠ 2) := by rcases h with h | h <;> omega
  unfold pTake shTake
  rw [if_neg (by omega), if_neg h1, if_pos hm]
  rfl
set_option maxRecDepth 100000 in
theorem pTake_no {s : ShS} (h : shAlive s) (m : Msg) (hm : m.1 = 0) (h2 : s.st = 2 ∨ m.2 ≠ tokZ s.own s.rd) : pTake s m = (s, []) := by
  have h1 : ¬ (s.st ≠ 1 ∧ s.st ≠ 2) := by rcases h with h | h <;> omega
  unfold pTake shTake
  rw [if_neg (by omega), if_neg h1, if_neg (by omega), if_pos h2]
  rfl
set_option maxRecDepth 100000 in
theorem pTake_yes {s : ShS} (m : Msg) (hm : m.1 = 0) (h : s.st = 1) (h2 : m.2 = tokZ s.own s.rd) :
    pTake s m = if s.rd + 1 < 4 then ({ s with rd := s.rd + 1, k := s.k + 1, q := 0 }, [(tokZ s.own (s.rd + 1), 0)]) else ({ s with rd := s.rd + 1, st := 2 }, []) := by
  have h1 : ¬ (s.st ≠ 1 ∧ s.st ≠ 2) := by omega
  have h3 : ¬ (s.st = 2 ∨ m.2 ≠ tokZ s.own s.rd) := by
    rintro (h3 | h3)
    · omega
    · exact h3 h2
  unfold pTake shTake
  rw [if_neg (by omega), if_neg h1, if_neg (by omega), if_neg h3]
  split <;> rfl
set_option maxRecDepth 100000 in
/-- one message taken -/
theorem pTake_sum {s : ShS} (h : shAlive s) (hq : 0 ≤ s.q) (m : Msg) :
    shAlive (pTake s m).1 ∧ (pTake s m).1.own = s.own ∧ 0 ≤ (pTake s m).1.q ∧ (pTake s m).1.q ≤ s.q ∧ (pTake s m).2.length ≤ 1 ∧ (s.st = 2 → (pTake s m).1.st = 2) ∧
    (m.1 ≠ 0 → (0, m.1) ∈ (pTake s m).2) ∧
    (s.st = 1 → (pTake s m).1.st = 2 ∨ ((pTake s m).1.st = 1 ∧ s.rd + 1 ≤ (pTake s m).1.rd) ∨ ((pTake s m).1.st = 1 ∧ (pTake s m).1.rd = s.rd ∧ (pTake s m).1.q = s.q ∧ m ≠ (0, tokZ s.own s.rd))) := by
  by_cases hm : m.1 = 0
  · by_cases h2 : s.st = 2 ∨ m.2 ≠ tokZ s.own s.rd
    · rw [pTake_no h m hm h2]
      refine ⟨h, rfl, hq, Int.le_refl _, by simp, fun e => e, fun e => absurd hm e, fun e => .inr (.inr ⟨e, rfl, rfl, fun e2 => ?_⟩)⟩
      rcases h2 with h2 | h2
      · omega
      · exact h2 (by rw [e2])
    · have h1 : s.st = 1 := by rcases h with h | h; exact h; exact absurd (.inl h) h2
      have h3 : m.2 = tokZ s.own s.rd := Decidable.byContradiction fun e => h2 (.inr e)
      rw [pTake_yes m hm h1 h3]
      split
      · exact ⟨.inl h1, rfl, Int.le_refl 0, hq, by simp, fun e => by omega, fun e => absurd hm e, fun _ => .inr (.inl ⟨h1, Int.le_refl _⟩)⟩
      · exact ⟨.inr rfl, rfl, hq, Int.le_refl _, by simp, fun _ => rfl, fun e => absurd hm e, fun _ => .inl rfl⟩
  · rw [pTake_q h m hm]
    refine ⟨h, rfl, hq, Int.le_refl _, by simp, fun e => e, fun _ => by simp, fun e => .inr (.inr ⟨e, rfl, rfl, fun e2 => hm (by rw [e2])⟩)⟩
set_option maxRecDepth 100000 in
/-- all messages taken -/
theorem pFold_sum (l : List Msg) : ∀ (s : ShS), shAlive s → 0 ≤ s.q →
    shAlive (pFold s l).1 ∧ (pFold s l).1.own = s.own ∧ 0 ≤ (pFold s l).1.q ∧ (pFold s l).1.q ≤ s.q ∧ (pFold s l).2.length ≤ l.length ∧ (s.st = 2 → (pFold s l).1.st = 2) ∧
    (∀ m ∈ l, m.1 ≠ 0 → (0, m.1) ∈ (pFold s l).2) ∧
    (s.st = 1 → (pFold s l).1.st = 2 ∨ ((pFold s l).1.st = 1 ∧ s.rd + 1 ≤ (pFold s l).1.rd) ∨ ((pFold s l).1.st = 1 ∧ (pFold s l).1.rd = s.rd ∧ (pFold s l).1.q = s.q ∧ (0, tokZ s.own s.rd) ∉ l)) := by
  induction l with
  | nil => intro s h hq; exact ⟨h, rfl, hq, Int.le_refl _, Nat.le_refl _, fun e => e, fun m hm => by simp at hm, fun e => .inr (.inr ⟨e, rfl, rfl, by simp⟩)⟩
  | cons m l ih =>
    intro s h hq
    obtain ⟨a1, a2, a3, a4, a5, a6, a7, a8⟩ := pTake_sum h hq m
    obtain ⟨b1, b2, b3, b4, b5, b6, b7, b8⟩ := ih (pTake s m).1 a1 a3
    simp only [pFold]
    refine ⟨b1, b2.trans a2, b3, by omega, by simp only [List.length_append, List.length_cons]; omega, fun e => b6 (a6 e), fun x hx hx0 => ?_, fun e => ?_⟩
    · rcases List.mem_cons.1 hx with rfl | hx
      · exact List.mem_append_left _ (a7 hx0)
      · exact List.mem_append_right _ (b7 x hx hx0)
    · rcases a8 e with h1 | ⟨h1, h2⟩ | ⟨h1, h2, h3, h4⟩
      · exact .inl (b6 h1)
      · rcases b8 h1 with c | ⟨c1, c2⟩ | ⟨c1, c2, _⟩
        · exact .inl c
        · exact .inr (.inl ⟨c1, by omega⟩)
        · exact .inr (.inl ⟨c1, by omega⟩)
      · rcases b8 h1 with c | ⟨c1, c2⟩ | ⟨c1, c2, c3, c4⟩
        · exact .inl c
        · exact .inr (.inl ⟨c1, by omega⟩)
        · refine .inr (.inr ⟨c1, by omega, by omega, fun hx => ?_⟩)
          rcases List.mem_cons.1 hx with hx | hx
          · exact h4 hx.symm
          · rw [a2, h2] at c4; exact c4 hx
/-- how far x is from running, an answer to it lying in Q -/
def PX (n : Int) (x : ShS) (Q : List Msg) : Prop := x.st = 2 ∨ (x.st = 1 ∧ (((0, tokZ x.own x.rd) ∈ Q ∧ 11 * (4 - x.rd) ≤ n) ∨ 11 * (4 - x.rd) + 10 - x.q ≤ n))
/-- how far y is from running, its question lying in Q -/
def PY (n : Int) (y : ShS) (Q : List Msg) : Prop := y.st = 2 ∨ (y.st = 1 ∧ (((tokZ y.own y.rd, 0) ∈ Q ∧ 11 * (4 - y.rd) ≤ n) ∨ 11 * (4 - y.rd) + 10 - y.q ≤ n))
/-- numbers in their bounds -/
structure ShG (s : ShS) : Prop where
  al : shAlive s
  q0 : 0 ≤ s.q
  q9 : s.q ≤ 9
set_option maxRecDepth 100000 in
/-- a tick, in short -/
theorem pTick_sum {s : ShS} (h : ShG s) : ShG (pTick s).1 ∧ (pTick s).1.own = s.own ∧ (pTick s).1.rd = s.rd ∧ (pTick s).1.st = s.st ∧
    (s.st = 2 → (pTick s).2 = []) ∧ (s.st = 1 → ((pTick s).2 = [] ∧ (pTick s).1.q = s.q + 1) ∨ ((pTick s).2 = [(tokZ s.own s.rd, 0)] ∧ s.q = 9 ∧ (pTick s).1.q = 0)) ∧
    10 * ((pTick s).2.length : Int) + (pTick s).1.q ≤ s.q + 1 := by
  obtain ⟨al, q0, q9⟩ := h
  rcases al with h | h
  · by_cases hq : s.q + 1 < 10
    · rw [pTick_wait h hq]
      exact ⟨⟨.inl h, by simp; omega, by simp; omega⟩, rfl, rfl, rfl, fun _ => rfl, fun _ => .inl ⟨rfl, rfl⟩, by simp⟩
    · rw [pTick_ask h hq]
      exact ⟨⟨.inl h, by simp, by simp⟩, rfl, rfl, rfl, fun e => by omega, fun _ => .inr ⟨rfl, by omega, rfl⟩, by simp; omega⟩
  · rw [pTick_run h]
    exact ⟨⟨.inr h, q0, q9⟩, rfl, rfl, rfl, fun _ => rfl, fun e => by omega, by simp; omega⟩
set_option maxRecDepth 100000 in
/-- one round: x's half, y's half -/
theorem meet_round {x y : ShS} {Qx Qy : List Msg} {n m B : Int} (hx : ShG x) (hy : ShG y) (hX : PX n x Qx) (hY : PY m y Qx) (hB : 10 * (Qx.length + Qy.length : Int) + x.q + y.q ≤ B) :
    let x1 := pTick x; let fx := pFold x1.1 Qx; let Qy1 := (Qy ++ x1.2) ++ fx.2; let y1 := pTick y; let fy := pFold y1.1 Qy1; let Qx1 := y1.2 ++ fy.2
    ShG fx.1 ∧ ShG fy.1 ∧ PX (n - 1) fx.1 Qx1 ∧ PY (m - 1) fy.1 Qx1 ∧ 10 * (Qx1.length : Int) + fx.1.q + fy.1.q ≤ B + 2 := by
  intro x1 fx Qy1 y1 fy Qx1
  obtain ⟨a1, a2, a3, a4, a5, a6, a7⟩ := pTick_sum hx
  obtain ⟨c1, c2, c3, c4, c5, c6, c7⟩ := pTick_sum hy
  obtain ⟨b1, b2, b3, b4, b5, b6, b7, b8⟩ := pFold_sum Qx x1.1 a1.al a1.q0
  obtain ⟨d1, d2, d3, d4, d5, d6, d7, d8⟩ := pFold_sum Qy1 y1.1 c1.al c1.q0
  have hl : Qy1.length = Qy.length + (pTick x).2.length + fx.2.length := by
    show ((Qy ++ x1.2) ++ fx.2).length = _
    rw [List.length_append, List.length_append]
  have hl2 : Qx1.length = (pTick y).2.length + fy.2.length := by
    show (y1.2 ++ fy.2).length = _
    rw [List.length_append]
  have b4' : fx.1.q ≤ (pTick x).1.q := b4
  have b5' : fx.2.length ≤ Qx.length := b5
  have d4' : fy.1.q ≤ (pTick y).1.q := d4
  have d5' : fy.2.length ≤ Qy1.length := d5
  refine ⟨⟨b1, b3, by have := a1.q9; omega⟩, ⟨d1, d3, by have := c1.q9; omega⟩, ?_, ?_, by omega⟩
  · rcases hX with h | ⟨h, hX⟩
    · exact .inl (b6 (a4.trans h))
    · rcases b8 (a4.trans h) with e | ⟨e1, e2⟩ | ⟨e1, e2, e3, e4⟩
      · exact .inl e
      · refine .inr ⟨e1, .inr ?_⟩
        have h9 := hx.q9
        have e2' : x.rd + 1 ≤ fx.1.rd := by rw [← a3]; exact e2
        have hq' : 0 ≤ fx.1.q := b3
        rcases hX with ⟨_, hX⟩ | hX <;> omega
      · have ht : tokZ x1.1.own x1.1.rd = tokZ x.own x.rd := by rw [a2, a3]
        have ht2 : tokZ fx.1.own fx.1.rd = tokZ x.own x.rd := by rw [b2, e2, ht]
        rw [ht] at e4
        have hn : 11 * (4 - x.rd) + 10 - x.q ≤ n := by
          rcases hX with ⟨hX, _⟩ | hX
          · exact absurd hX e4
          · exact hX
        have hr : fx.1.rd = x.rd := e2.trans a3
        have hq : fx.1.q = x1.1.q := e3
        rcases a6 h with ⟨_, g2⟩ | ⟨g1, g2, _⟩
        · refine .inr ⟨e1, .inr ?_⟩
          rw [hr, hq]
          have : x1.1.q = x.q + 1 := g2
          omega
        · refine .inr ⟨e1, .inl ⟨?_, by rw [hr]; omega⟩⟩
          rw [ht2]
          refine List.mem_append_right _ (d7 (tokZ x.own x.rd, 0) ?_ (tokZ_ne _ _))
          refine List.mem_append_left _ (List.mem_append_right _ ?_)
          show _ ∈ (pTick x).2
          rw [g1]
          simp
  · rcases hY with h | ⟨h, hY⟩
    · exact .inl (d6 (c4.trans h))
    · rcases d8 (c4.trans h) with e | ⟨e1, e2⟩ | ⟨e1, e2, e3, e4⟩
      · exact .inl e
      · refine .inr ⟨e1, .inr ?_⟩
        have h9 := hy.q9
        have e2' : y.rd + 1 ≤ fy.1.rd := by rw [← c3]; exact e2
        have hq' : 0 ≤ fy.1.q := d3
        rcases hY with ⟨_, hY⟩ | hY <;> omega
      · have ht : tokZ y1.1.own y1.1.rd = tokZ y.own y.rd := by rw [c2, c3]
        have ht2 : tokZ fy.1.own fy.1.rd = tokZ y.own y.rd := by rw [d2, e2, ht]
        rw [ht] at e4
        have hn : 11 * (4 - y.rd) + 10 - y.q ≤ m := by
          rcases hY with ⟨hY, _⟩ | hY
          · exact absurd (List.mem_append_right _ (b7 _ hY (tokZ_ne _ _))) e4
          · exact hY
        have hr : fy.1.rd = y.rd := e2.trans c3
        have hq : fy.1.q = y1.1.q := e3
        rcases c6 h with ⟨_, g2⟩ | ⟨g1, g2, _⟩
        · refine .inr ⟨e1, .inr ?_⟩
          rw [hr, hq]
          have : y1.1.q = y.q + 1 := g2
          omega
        · refine .inr ⟨e1, .inl ⟨?_, by rw [hr]; omega⟩⟩
          rw [ht2]
          refine List.mem_append_left _ ?_
          show _ ∈ (pTick y).2
          rw [g1]
          simp
set_option maxRecDepth 100000 in
/-- a bound at the start, an end at 0 -/
theorem PX_start {x : ShS} (h : ShG x) (h0 : 0 ≤ x.rd) (Q : List Msg) : PX 54 x Q := by
  rcases h.al with e | e
  · exact .inr ⟨e, .inr (by have := h.q0; omega)⟩
  · exact .inl e
set_option maxRecDepth 100000 in
theorem PY_start {x : ShS} (h : ShG x) (h0 : 0 ≤ x.rd) (Q : List Msg) : PY 54 x Q := by
  rcases h.al with e | e
  · exact .inr ⟨e, .inr (by have := h.q0; omega)⟩
  · exact .inl e
set_option maxRecDepth 100000 in
theorem PX_end {x : ShS} {n : Int} {Q : List Msg} (h : PX n x Q) (hg : ShG x) (h3 : x.st = 1 → x.rd ≤ 3) (hn : n ≤ 0) : x.st = 2 := by
  rcases h with h | ⟨h, h2⟩
  · exact h
  · have := h3 h
    have := hg.q9
    rcases h2 with ⟨_, h2⟩ | h2 <;> omega
set_option maxRecDepth 100000 in
theorem PY_end {x : ShS} {n : Int} {Q : List Msg} (h : PY n x Q) (hg : ShG x) (h3 : x.st = 1 → x.rd ≤ 3) (hn : n ≤ 0) : x.st = 2 := by
  rcases h with h | ⟨h, h2⟩
  · exact h
  · have := h3 h
    have := hg.q9
    rcases h2 with ⟨_, h2⟩ | h2 <;> omega
end Go.Proofs.Ytdpngimcmohmaaa
