/- Appending one slice of bytes to a row that a call made itself: what becomes of the row, and of all else. Lemmas alone. -/
import Derived.Test.YtdpmhfpoendooaaRow8
import Derived.ArgAppend
namespace Go.Proofs.Ytdpmhfpoendooaa
open Go.RowKit
def catF (k : Nat) (f h : Nat → Nat) (j : Nat) : Nat := if j < k then f j else h (j - k)
theorem rowB_cat (k m : Nat) (f h : Nat → Nat) : rowB ((List.range k).map f) ++ rowB ((List.range m).map h) = rowB ((List.range (k + m)).map (catF k f h)) := by
  unfold rowB
  rw [List.range_add, List.map_append, List.map_append]
  congr 1
  · simp only [List.map_map]
    apply List.map_congr_left
    intro j hj
    have : j < k := by simpa using hj
    simp [catF, this]
  · simp only [List.map_map]
    apply List.map_congr_left
    intro j _
    have h0 : ¬ k + j < k := by omega
    simp [catF, h0]
theorem own_base {w : World} {b b' n : Nat} {v : Value} {xs : List Value} {T : TypeId} (h : w.ownsRow b T 1 v n xs) (hb : b' ≤ b) : w.ownsRow b' T 1 v n xs := by
  refine ⟨h.1, ?_⟩
  rcases h.2 with h1 | ⟨g, cap, cur, hv, h2, h3⟩
  · exact .inl h1
  · exact .inr ⟨g, cap, cur, hv, Nat.le_trans hb h2, h3⟩
theorem OwnB.congr {w : World} {base n : Nat} {v : Value} {f f' : Nat → Nat} (h : OwnB w base v n f) (e : ∀ j, j < n → f j = f' j) : OwnB w base v n f' := by
  unfold OwnB at *
  rw [show (List.range n).map f' = (List.range n).map f from List.map_congr_left fun j hj => (e j (by simpa using hj)).symm]
  exact h
theorem OwnB.lt {w : World} {base n : Nat} {v : Value} {f : Nat → Nat} (h : OwnB w base v n f) : ∀ g, v.ownBlock = some g → base ≤ g ∧ g < w.heap.size := World.ownsRow.lt h
theorem OwnB.kept {w w' : World} {base n : Nat} {v : Value} {f : Nat → Nat} {row : Option Nat} (h : OwnB w base v n f) (hg : w.grownBy w' row) (hne : v.ownBlock = none ∨ v.ownBlock ≠ row) : OwnB w' base v n f := World.ownsRow.kept h hg hne
theorem wpList_catB {ops : Array Oper} {rest : List Oper} {o : Oper} {a : Act} {w : World} {Q : Exit → Act → World → Prop} (hgd : o.guard = none) (s x : Operand)
    (ho : o.op = .call { callee := .builtin .append, args := #[s, x], argTypes := #[29, 29] })
    (v : Value) (base k : Nat) (f : Nat → Nat) (hs : a.eval s = v) (hown : OwnB w base v k f)
    (A : Option Addr) (c m : Nat) (h : Nat → Nat) (hx : a.eval x = .slice A m c) (hA : By w A m h) (hnone : A = none → m = 0 ∧ c = 0) (hk : k + m ≤ 100000000) (hbase : base ≤ w.heap.size)
    (hh : ∀ v' w', OwnB w' base v' (k + m) (catF k f h) → w.grownBy w' v.ownBlock → (∀ b, v'.ownBlock = some b → v.ownBlock = some b ∨ w.heap.size ≤ b) → wpList Try.prog ops Q rest (a.put o.dst v') w') :
    wpList Try.prog ops Q (o :: rest) a w := by
  obtain ⟨i0, hi, hz0, hz1, hz2⟩ := info_parts info8
  have hnews : ∀ ad, A = some ad → ∀ j u, (rowB ((List.range m).map h))[j]? = some u → w.cell? (ad.add j) = some u := by
    intro ad hA2 j u hj
    rw [rowB_get] at hj
    obtain ⟨y, hy, hyu⟩ := Option.map_eq_some_iff.1 hj
    obtain ⟨b, off, he, hc⟩ := hA.sl j y hy
    rw [hA2] at he
    injection he with he
    subst he hyu
    by_cases hz : j = 0
    · subst hz; simpa [Addr.add] using hc
    · simpa [Addr.add, hz] using hc
  have h1c : ∀ u ∈ rowB ((List.range m).map h), u.oneCell' = true := by
    intro u hu
    unfold rowB at hu
    obtain ⟨y, _, rfl⟩ := List.mem_map.1 hu
    rfl
  have hln : (rowB ((List.range m).map h)).length = m * 1 := by rw [rowB_length]; simp
  cases A with
  | none =>
    obtain ⟨rfl, rfl⟩ := hnone rfl
    refine wpList_append_own_none hgd s x 29 ho base 5 i0 1 Try.underlying29 hi _ k _ hs hown hx ?_
    exact hh v w (OwnB.congr (show OwnB w base v (k + 0) f from hown) (fun j hj => by unfold catF; rw [if_pos (by omega)])) (only_refl _ _) (fun b hb => .inl hb)
  | some ad =>
    have hc := hnews ad rfl
    rcases hown.2 with ⟨hv, hn⟩ | ⟨g, cap, cur, hv, q1, q2, q3, q4, q5, q6⟩
    · subst hn hv
      have hown' : w.ownsRow w.heap.size 5 1 (.slice none 0 0) 0 (rowB ((List.range 0).map f)) := World.ownsRow_nil _ _ _ _
      refine wpList_append_own _ hgd s x 29 ho w.heap.size 5 i0 (.int .u8 0) 1 1 Try.underlying29 hi hz0 hz1 hz2 rfl (by decide) _ 0 _ hs hown' ad m c _ hx hln hc h1c (by unfold maxLen; omega) (by omega) (Nat.le_refl _) ?_
      intro v' w' h2 h3 _
      rw [rowB_cat] at h2
      exact hh v' w' (own_base h2 hbase) h3 (fun b hb => .inr ((World.ownsRow.lt h2) b hb).1)
    · subst hv
      by_cases hr : k + m ≤ cap
      · refine wpList_append_fits _ hgd s x 29 ho base 5 i0 1 Try.underlying29 hi hz1 g k cap _ hs hown ad m c _ hx hln hc h1c hr ?_
        intro w' h2 h3
        rw [rowB_cat] at h2
        exact hh _ w' h2 h3 (fun b hb => .inl hb)
      · refine wpList_append_grows _ hgd s x 29 ho 5 i0 (.int .u8 0) 1 1 Try.underlying29 hi hz0 hz1 hz2 rfl (by decide) (some ⟨g, 0, none⟩) k cap (rowB ((List.range k).map f)) hs (fun e => by cases e) (by rw [rowB_length]; simp) (fun b hb j u hj => by
            injection hb with hb
            subst hb
            exact World.ownsRow.cells hown rfl j u hj) ad m c _ hx hln hc h1c (by omega) (by unfold maxLen; omega) (by omega) ?_
        intro v' w' h2 h3
        rw [rowB_cat] at h2
        exact hh v' w' (own_base h2 hbase) ⟨h3.os, h3.tape, h3.output, h3.size, fun i hi _ => h3.block i hi (by simp)⟩ (fun b hb => .inr ((World.ownsRow.lt h2) b hb).1)
/-- what but two blocks has stayed -/
structure Kp (W W' : World) (p : Nat) (v : Value) : Prop where
  os : W'.os = W.os
  tape : W'.tape = W.tape
  output : W'.output = W.output
  size : W.heap.size ≤ W'.heap.size
  blk : ∀ b, b < W.heap.size → b ≠ p → v.ownBlock ≠ some b → W'.heap[b]? = W.heap[b]?
theorem Kp.refl (W : World) (p : Nat) (v : Value) : Kp W W p v := ⟨rfl, rfl, rfl, Nat.le_refl _, fun _ _ _ _ => rfl⟩
theorem Kp.trans {W W1 W2 : World} {p : Nat} {v v1 : Value} (h : Kp W W1 p v) (k : Kp W1 W2 p v1) (hv : ∀ b, v1.ownBlock = some b → v.ownBlock = some b ∨ W.heap.size ≤ b) : Kp W W2 p v :=
  ⟨k.os.trans h.os, k.tape.trans h.tape, k.output.trans h.output, Nat.le_trans h.size k.size, fun b hb hp hne => (k.blk b (Nat.lt_of_lt_of_le hb h.size) hp (fun e => by
    rcases hv b e with h2 | h2
    · exact hne h2
    · omega)).trans (h.blk b hb hp hne)⟩
theorem Kp.grown {W W1 W2 : World} {p : Nat} {v v1 : Value} (h : Kp W W1 p v) (k : W1.grownBy W2 v1.ownBlock) (hv : ∀ b, v1.ownBlock = some b → v.ownBlock = some b ∨ W.heap.size ≤ b) : Kp W W2 p v :=
  h.trans (v1 := v1) ⟨k.os, k.tape, k.output, k.size, fun b hb _ hne => k.block b hb (fun e => hne e.symm)⟩ hv
theorem Kp.below {W W1 W2 : World} {p : Nat} {v : Value} (h : Kp W W1 p v) (k : Below W1.heap.size W1 W2) : Kp W W2 p v :=
  ⟨k.os.trans h.os, k.tape.trans h.tape, k.output.trans h.output, Nat.le_trans h.size k.size, fun b hb hp hne => (k.block b (Nat.lt_of_lt_of_le hb h.size)).trans (h.blk b hb hp hne)⟩
theorem Kp.set {W W1 : World} {p : Nat} {v : Value} (h : Kp W W1 p v) (g off : Nat) (u : Value) (hg : g = p ∨ v.ownBlock = some g ∨ W.heap.size ≤ g) : Kp W (W1.setCell ⟨g, off, none⟩ u) p v :=
  ⟨h.os, h.tape, h.output, by simpa [World.setCell] using h.size, fun b hb hp hne => (heap_setCell_other W1 ⟨g, off, none⟩ b u (by
    show b ≠ g
    rintro rfl
    rcases hg with hg | hg | hg
    · exact hp hg
    · exact hne hg
    · omega)).trans (h.blk b hb hp hne)⟩
theorem Kp.to_below {W0 W W' : World} {p B : Nat} {v : Value} (h : Kp W W' p v) (hb : Below B W0 W) (hB : B ≤ W.heap.size) (hp : B ≤ p) (hv : ∀ b, v.ownBlock = some b → B ≤ b) : Below B W0 W' :=
  ⟨h.os.trans hb.os, h.tape.trans hb.tape, h.output.trans hb.output, Nat.le_trans hb.size h.size, fun i hi => (h.blk i (by omega) (by omega) (fun e => by have := hv i e; omega)).trans (hb.block i hi)⟩
end Go.Proofs.Ytdpmhfpoendooaa
