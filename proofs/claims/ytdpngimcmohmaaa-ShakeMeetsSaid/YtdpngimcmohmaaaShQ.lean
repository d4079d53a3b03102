/- A queue of messages: a slice of datagrams whose head moves on. Lemmas alone. -/
import Derived.Test.YtdpngimcmohmaaaShMeet
import Derived.Test.YtdpngimcmohmaaaShDo
import Derived.ArgAppend
namespace Go.Proofs.Ytdpngimcmohmaaa
open Go.RowKit
def qCells (x : Msg) : List Value := (dgmA 1 x.1 x.2).toList
set_option maxRecDepth 100000 in
theorem qCells_len (x : Msg) : (qCells x).length = 11 := by unfold qCells dgmA; rfl
def qRow (l : List Msg) : List Value := l.flatMap qCells
set_option maxRecDepth 100000 in
theorem qRow_len (l : List Msg) : (qRow l).length = l.length * 11 := by
  induction l with
  | nil => rfl
  | cons x l ih => rw [qRow, List.flatMap_cons, List.length_append, qCells_len]; unfold qRow at ih; rw [ih, List.length_cons]; omega
set_option maxRecDepth 100000 in
theorem qRow_snoc (l : List Msg) (x : Msg) : qRow (l ++ [x]) = qRow l ++ qCells x := by simp [qRow]
set_option maxRecDepth 100000 in
theorem qRow_cons (l : List Msg) (x : Msg) : qRow (x :: l) = qCells x ++ qRow l := by simp [qRow]
abbrev qBlk (v : Value) : Option Nat := v.ownBlock
/-- a queue: its messages lie one behind the other from the slice's address on -/
def QAt (W : World) (lo : Nat) (v : Value) (l : List Msg) : Prop :=
  (v = .slice none 0 0 ∧ l = []) ∨ ∃ b off cap C, v = .slice (some ⟨b, off, none⟩) l.length cap ∧ lo ≤ b ∧ W.heap[b]? = some (.cells C 34 (0, 0)) ∧ l.length ≤ cap ∧ cap ≤ maxLen ∧ (0 < cap → off + cap * 11 ≤ C.size) ∧ ∀ j u, (qRow l)[j]? = some u → C[off + j]? = some u
set_option maxRecDepth 100000 in
theorem QAt.nil (W : World) (lo : Nat) : QAt W lo (.slice none 0 0) [] := .inl ⟨rfl, rfl⟩
set_option maxRecDepth 100000 in
theorem QAt.kept {W W' : World} {lo : Nat} {v : Value} {l : List Msg} (h : QAt W lo v l) (e : ∀ b, qBlk v = some b → W'.heap[b]? = W.heap[b]?) : QAt W' lo v l := by
  rcases h with h | ⟨b, off, cap, C, rfl, h2, h3, h4⟩
  · exact .inl h
  · exact .inr ⟨b, off, cap, C, rfl, h2, (e b rfl).trans h3, h4⟩
set_option maxRecDepth 100000 in
theorem QAt.lt {W : World} {lo : Nat} {v : Value} {l : List Msg} (h : QAt W lo v l) : ∀ b, qBlk v = some b → lo ≤ b ∧ ∃ C, W.heap[b]? = some (.cells C 34 (0, 0)) := by
  intro b hb
  rcases h with ⟨rfl, _⟩ | ⟨b', off, cap, C, rfl, h2, h3, _⟩
  · cases hb
  · injection hb with hb
    subst hb
    exact ⟨h2, C, h3⟩
set_option maxRecDepth 100000 in
theorem QAt.form {W : World} {lo : Nat} {v : Value} {l : List Msg} (h : QAt W lo v l) : ∃ s cap, v = .slice s l.length cap := by
  rcases h with ⟨rfl, rfl⟩ | ⟨b, off, cap, C, rfl, _⟩
  · exact ⟨_, _, rfl⟩
  · exact ⟨_, _, rfl⟩
set_option maxRecDepth 100000 in
/-- cells set one by one -/
theorem setCells_blk (b : Nat) (T : TypeId) : ∀ (vs : List Value) (o : Nat) (w : World) (C : Array Value), w.heap[b]? = some (.cells C T (0, 0)) →
    ∃ C', (w.setCells b o vs).heap[b]? = some (.cells C' T (0, 0)) ∧ C'.size = C.size ∧ (∀ j, j < o ∨ o + vs.length ≤ j → C'[j]? = C[j]?) ∧ (∀ j, j < vs.length → o + j < C.size → C'[o + j]? = vs[j]?) ∧ w.grownBy (w.setCells b o vs) (some b)
  | [], o, w, C, h => ⟨C, h, rfl, fun _ _ => rfl, fun j hj => absurd hj (by simp), only_refl w _⟩
  | v :: vs, o, w, C, h => by
    have h1 := blk_set h o v
    obtain ⟨C', g1, g2, g3, g4, g5⟩ := setCells_blk b T vs (o + 1) (w.setCell ⟨b, o, none⟩ v) _ h1
    refine ⟨C', g1, by rw [g2]; simp, fun j hj => ?_, fun j hj hc => ?_, only_trans (only_set (only_refl w (some b)) o v) g5⟩
    · rw [g3 j (by simp only [List.length_cons] at hj; omega)]
      rw [Array.getElem?_setIfInBounds]
      rw [if_neg (by simp only [List.length_cons] at hj; omega)]
    · rcases j with _ | j
      · rw [g3 (o + 0) (by omega)]
        rw [Array.getElem?_setIfInBounds, if_pos (by omega)]
        simp
        omega
      · have := g4 j (by simp only [List.length_cons] at hj; omega) (by simp; omega)
        rw [show o + (j + 1) = o + 1 + j by omega, this]
        simp
set_option maxRecDepth 100000 in
theorem dgm_info88 : (Try.prog.info? 34).map (fun i => (i.zero, i.size, i.bytes)) = some (some (.agg (dgmA 0 0 0)), 11, 88) := by kernel_rfl
set_option maxRecDepth 100000 in
/-- append(q, d) -/
theorem q_push {W : World} {lo : Nat} {v : Value} {l : List Msg} (h : QAt W lo v l) (hlo : lo ≤ W.heap.size) (hl : l.length ≤ 100000) (g : Nat) (x : Msg) (hg : W.heap[g]? = some (.cells (dgmA 1 x.1 x.2) 34 (0, 0))) (ty : TypeId) :
    ∃ v' W', (Builtin.append_ #[30, 30] ty #[v, .slice (some ⟨g, 0, none⟩) 1 1]).run Try.prog W = .ok v' W' ∧ QAt W' lo v' (l ++ [x]) ∧ W.grownBy W' (qBlk v) ∧ (∀ b, qBlk v' = some b → qBlk v = some b ∨ W.heap.size ≤ b) := by
  obtain ⟨i0, hi, hz0, hz1, hz2⟩ : ∃ i, Try.prog.info? 34 = some i ∧ i.zero = some (.agg (dgmA 0 0 0)) ∧ i.size = 11 ∧ i.bytes = 88 := by
    have := dgm_info88
    rcases hh : Try.prog.info? 34 with _ | i
    · rw [hh] at this; cases this
    · rw [hh] at this
      simp only [Option.map_some, Option.some.injEq, Prod.mk.injEq] at this
      exact ⟨i, rfl, this.1, this.2.1, this.2.2⟩
  have hnews : ∀ j u, (qCells x)[j]? = some u → W.cell? ((⟨g, 0, none⟩ : Addr).add j) = some u := by
    intro j u hj
    have : W.cell? ⟨g, j, none⟩ = some u := by
      rw [cell_of_block hg, ← Array.getElem?_toList]
      exact hj
    by_cases hj0 : j = 0
    · subst hj0; simpa [Addr.add] using this
    · simpa [Addr.add, hj0] using this
  have h1c : ∀ u ∈ qCells x, u.oneCell' = true := by
    intro u hu
    unfold qCells dgmA at hu
    simp only [List.mem_cons, List.not_mem_nil, or_false] at hu
    rcases hu with rfl | rfl | rfl | rfl | rfl | rfl | rfl | rfl | rfl | rfl | rfl <;> rfl
  have hgrown : ∀ {v' W'}, W'.ownsRow W.heap.size 34 11 v' (l.length + 1) (qRow l ++ qCells x) → QAt W' lo v' (l ++ [x]) ∧ (∀ b, qBlk v' = some b → qBlk v = some b ∨ W.heap.size ≤ b) := by
    intro v' W' h2
    rcases h2.2 with ⟨_, h3⟩ | ⟨b, cap, cur, rfl, hb, hcur, hle, hcm, hcs, htk⟩
    · omega
    · refine ⟨.inr ⟨b, 0, cap, cur, by rw [List.length_append]; rfl, by omega, hcur, by rw [List.length_append]; exact hle, hcm, fun _ => by omega, fun j u hj => ?_⟩, fun p hp => ?_⟩
      · rw [qRow_snoc, ← htk, List.getElem?_take] at hj
        split at hj
        · rw [Nat.zero_add, ← Array.getElem?_toList]; exact hj
        · cases hj
      · injection hp with hp
        subst hp
        exact .inr hb
  rcases h with ⟨rfl, rfl⟩ | ⟨b, off, cap, C, rfl, h2, h3, h4, h5, h6, h7⟩
  · obtain ⟨v', W', hr, ho, hgr, _⟩ := run_append_own (P := Try.prog) W W.heap.size 30 ty 34 i0 (.agg (dgmA 0 0 0)) 11 88 Try.underlying30 hi hz0 hz1 hz2 rfl (by decide) _ 0 _ (World.ownsRow_nil _ _ _ _) ⟨g, 0, none⟩ 1 1 (qCells x) (qCells_len x) hnews h1c (by unfold maxLen; omega) (by omega) (Nat.le_refl _)
    obtain ⟨q1, q2⟩ := hgrown ho
    exact ⟨v', W', hr, q1, hgr, q2⟩
  · by_cases hroom : l.length + 1 ≤ cap
    · have hsz := h6 (by omega)
      have hr := run_append_room_cells (P := Try.prog) W 30 ty 34 i0 Try.underlying30 hi b off l.length cap ⟨g, 0, none⟩ 1 1 (qCells x) (by rw [qCells_len, hz1]) hnews h1c hroom
        (fun j hj => by rw [qCells_len] at hj; rw [hz1, cell_of_block h3]; simp; omega) (fun j _ => frozen_of_row _ _ _ _ _ h3)
      rw [hz1] at hr
      obtain ⟨C', g1, g2, g3, g4, g5⟩ := setCells_blk b _ (qCells x) (off + l.length * 11) W C h3
      refine ⟨_, _, hr, .inr ⟨b, off, cap, C', by rw [List.length_append]; rfl, h2, g1, by rw [List.length_append]; exact hroom, h5, fun _ => by rw [g2]; exact hsz, fun j u hj => ?_⟩, g5, fun p hp => .inl hp⟩
      rw [qRow_snoc] at hj
      by_cases hjl : j < l.length * 11
      · rw [List.getElem?_append_left (by rw [qRow_len]; exact hjl)] at hj
        rw [g3 _ (.inl (by omega))]
        exact h7 j u hj
      · rw [List.getElem?_append_right (by rw [qRow_len]; omega), qRow_len] at hj
        have hj2 := (List.getElem?_eq_some_iff.1 hj).1
        have hj3 := hj2
        rw [qCells_len] at hj3
        have := g4 (j - l.length * 11) hj2 (by omega)
        rw [show off + l.length * 11 + (j - l.length * 11) = off + j by omega] at this
        rw [this]
        exact hj
    · obtain ⟨v', W', hr, ho, hgr⟩ := run_append_arg_grows (P := Try.prog) W 30 ty 34 i0 (.agg (dgmA 0 0 0)) 11 88 Try.underlying30 hi hz0 hz1 hz2 rfl (by decide) ⟨b, off, none⟩ l.length cap (qRow l) (qRow_len l)
        (fun j u hj => by
          have : W.cell? ⟨b, off + j, none⟩ = some u := by rw [cell_of_block h3]; exact h7 j u hj
          by_cases hj0 : j = 0
          · subst hj0; simpa [Addr.add] using this
          · simpa [Addr.add, hj0] using this) ⟨g, 0, none⟩ 1 1 (qCells x) (qCells_len x) hnews (by omega) (by unfold maxLen; omega) (by omega)
      obtain ⟨q1, q2⟩ := hgrown ho
      exact ⟨v', W', hr, q1, ⟨hgr.os, hgr.tape, hgr.output, hgr.size, fun i hi _ => hgr.block i hi (by simp)⟩, q2⟩
set_option maxRecDepth 100000 in
/-- the head, and what is left behind it -/
theorem QAt.head {W : World} {lo : Nat} {v : Value} {x : Msg} {l : List Msg} (h : QAt W lo v (x :: l)) :
    ∃ b off cap, v = .slice (some ⟨b, off, none⟩) (l.length + 1) (cap + 1) ∧ l.length ≤ cap ∧ b < W.heap.size ∧ lo ≤ b ∧ (∃ C, W.heap[b]? = some (.cells C 34 (0, 0)) ∧ ∀ j u, (dgmA 1 x.1 x.2)[j]? = some u → C[off + j]? = some u) ∧
      (0 < cap → QAt W lo (.slice (some ⟨b, off + 11, none⟩) l.length cap) l) ∧ (cap = 0 → l = [] ∧ QAt W lo (.slice (some ⟨b, off, none⟩) 0 0) []) := by
  rcases h with ⟨_, h⟩ | ⟨b, off, cap, C, rfl, h2, h3, h4, h5, h6, h7⟩
  · cases h
  · have hc : 0 < cap := by simp only [List.length_cons] at h4; omega
    obtain ⟨c, rfl⟩ : ∃ c, cap = c + 1 := ⟨cap - 1, by omega⟩
    have h4' : l.length ≤ c := by simp only [List.length_cons] at h4; omega
    refine ⟨b, off, c, rfl, h4', (Array.getElem?_eq_some_iff.1 h3).1, h2, ⟨C, h3, fun j u hj => h7 j u ?_⟩, fun hc0 => ?_, fun hc0 => ?_⟩
    · rw [qRow_cons, List.getElem?_append_left, ← hj]
      · unfold qCells; rw [Array.getElem?_toList]
      · rw [qCells_len]; have := (Array.getElem?_eq_some_iff.1 hj).1; unfold dgmA at this; exact this
    · refine .inr ⟨b, off + 11, c, C, rfl, h2, h3, h4', by omega, fun _ => by have := h6 hc; omega, fun j u hj => ?_⟩
      have := h7 (11 + j) u (by rw [qRow_cons, List.getElem?_append_right (by rw [qCells_len]; omega), qCells_len, show 11 + j - 11 = j by omega]; exact hj)
      rw [show off + 11 + j = off + (11 + j) by omega]
      exact this
    · refine ⟨List.length_eq_zero_iff.1 (by omega), .inr ⟨b, off, 0, C, rfl, h2, h3, Nat.le_refl _, by unfold maxLen; omega, fun h => absurd h (by omega), fun j u hj => ?_⟩⟩
      simp [qRow] at hj
end Go.Proofs.Ytdpngimcmohmaaa
