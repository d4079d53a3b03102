/- Rows of numbers of any kind that a call made itself and appends to one at a time. Lemmas alone. -/
import Derived.Test.YtdpngimcmohmaaaRowF
import Derived.Laws.AppendOwnNone
namespace Go.Proofs.Ytdpngimcmohmaaa
open Go.RowKit
/-- numbers as cells -/
def rowZ (k : IntKind) (n : Nat) (f : Nat → Int) : List Value := (List.range n).map fun i => .int k (f i)
set_option maxRecDepth 100000 in
theorem rowZ_get (k : IntKind) (n : Nat) (f : Nat → Int) (i : Nat) (hi : i < n) : (rowZ k n f)[i]? = some (.int k (f i)) := by simp [rowZ, hi]
set_option maxRecDepth 100000 in
theorem rowZ_length (k : IntKind) (n : Nat) (f : Nat → Int) : (rowZ k n f).length = n := by simp [rowZ]
set_option maxRecDepth 100000 in
theorem rowZ_snoc (k : IntKind) (n : Nat) (f : Nat → Int) : rowZ k n f ++ [.int k (f n)] = rowZ k (n + 1) f := by
  unfold rowZ
  rw [List.range_succ]
  simp
def OwnZ (w : World) (base : Nat) (T : TypeId) (k : IntKind) (v : Value) (n : Nat) (f : Nat → Int) : Prop := w.ownsRow base T 1 v n (rowZ k n f)
set_option maxRecDepth 100000 in
theorem OwnZ.nil (w : World) (base : Nat) (T : TypeId) (k : IntKind) (f : Nat → Int) : OwnZ w base T k (.slice none 0 0) 0 f := World.ownsRow_nil _ _ _ _
set_option maxRecDepth 100000 in
theorem OwnZ.lt {w : World} {base n : Nat} {T : TypeId} {k : IntKind} {v : Value} {f : Nat → Int} (h : OwnZ w base T k v n f) : ∀ g, v.ownBlock = some g → base ≤ g ∧ g < w.heap.size := World.ownsRow.lt h
set_option maxRecDepth 100000 in
theorem OwnZ.kept {w w' : World} {base n : Nat} {T : TypeId} {k : IntKind} {v : Value} {f : Nat → Int} {row : Option Nat} (h : OwnZ w base T k v n f) (hg : w.grownBy w' row) (hne : ∀ b, row = some b → b < base) : OwnZ w' base T k v n f := by
  refine World.ownsRow.kept h hg ?_
  rcases hv : v.ownBlock with _ | b
  · exact .inl rfl
  · refine .inr (fun e => ?_)
    have h1 := h.lt b hv
    have h2 := hne b e.symm
    omega
set_option maxRecDepth 100000 in
theorem OwnZ.below {w w' : World} {base n : Nat} {T : TypeId} {k : IntKind} {v : Value} {f : Nat → Int} (h : OwnZ w base T k v n f) (hb : Below w.heap.size w w') : OwnZ w' base T k v n f := by
  refine ⟨h.1, ?_⟩
  rcases h.2 with h1 | ⟨g, cap, cur, hv, h2, hg, h3⟩
  · exact .inl h1
  · exact .inr ⟨g, cap, cur, hv, h2, (hb.block g (Array.getElem?_eq_some_iff.1 hg).1).trans hg, h3⟩
set_option maxRecDepth 100000 in
theorem OwnZ.congr {w : World} {base n : Nat} {T : TypeId} {k : IntKind} {v : Value} {f f' : Nat → Int} (h : OwnZ w base T k v n f) (e : ∀ j, j < n → f j = f' j) : OwnZ w base T k v n f' := by
  unfold OwnZ rowZ at *
  rw [show ((List.range n).map fun i => Value.int k (f' i)) = (List.range n).map fun i => Value.int k (f i) from List.map_congr_left fun j hj => by rw [e j (by simpa using hj)]]
  exact h
/-- a slice's first n numbers are f's -/
def ZAt (w : World) (k : IntKind) (s : Option Addr) (n : Nat) (f : Nat → Int) : Prop := ∀ i, i < n → ∃ b off, s = some ⟨b, off, none⟩ ∧ w.cell? ⟨b, off + i, none⟩ = some (.int k (f i))
set_option maxRecDepth 100000 in
theorem ZAt.below {w w' : World} {k : IntKind} {s : Option Addr} {n : Nat} {f : Nat → Int} (h : ZAt w k s n f) (hb : Below w.heap.size w w') : ZAt w' k s n f := by
  intro i hi
  obtain ⟨b, off, hs, hc⟩ := h i hi
  exact ⟨b, off, hs, by rw [hb.cell (p := ⟨b, off + i, none⟩) (cell_block_lt hc)]; exact hc⟩
set_option maxRecDepth 100000 in
theorem OwnZ.open {w : World} {base n : Nat} {T : TypeId} {k : IntKind} {v : Value} {f : Nat → Int} (h : OwnZ w base T k v n f) : ∃ s cap, v = .slice s n cap ∧ ZAt w k s n f ∧ n ≤ cap ∧ cap ≤ maxLen ∧ (s = none → n = 0 ∧ cap = 0) := by
  rcases h.2 with ⟨h1, h2⟩ | ⟨g, cap, cur, hv, hb, hg, q1, q2, q3, q4⟩
  · subst h2
    exact ⟨none, 0, h1, fun i hi => absurd hi (by omega), Nat.le_refl _, by unfold maxLen; omega, fun _ => ⟨rfl, rfl⟩⟩
  · refine ⟨some ⟨g, 0, none⟩, cap, hv, fun i hi => ⟨g, 0, rfl, ?_⟩, q1, q2, (fun e => by cases e)⟩
    rw [Nat.zero_add, cell_of_block hg]
    have e := rowZ_get k n f i hi
    rw [← q4, List.getElem?_take, if_pos (by omega), Array.getElem?_toList] at e
    exact e
set_option maxRecDepth 100000 in
theorem below_grown {B : Nat} {W a b : World} {row : Option Nat} (h : Below B W a) (hB : B ≤ W.heap.size) (hg : a.grownBy b row) (hp : ∀ p, row = some p → B ≤ p) : Below B W b :=
  ⟨hg.os.trans h.os, hg.tape.trans h.tape, hg.output.trans h.output, Nat.le_trans h.size hg.size, fun i hi => (hg.block i (by have := h.size; omega) (fun e => by have := hp i e.symm; omega)).trans (h.block i hi)⟩
set_option maxRecDepth 100000 in
/-- append(s, x), one number -/
theorem wpList_snocZ {P : Program} {S T : TypeId} {k : IntKind} {bytes : Nat} (hS : P.underlying S = some (.slice T)) (hI : (P.info? T).map (fun i => (i.zero, i.size, i.bytes)) = some (some (.int k 0), 1, bytes)) (hby : bytes ≤ 8)
    {ops : Array Oper} {rest : List Oper} {o : Oper} {a : Act} {w : World} {Q : Exit → Act → World → Prop} (hgd : o.guard = none) (s x : Operand)
    (ho : o.op = .call { callee := .builtin .append, args := #[s, x], argTypes := #[S, S] })
    (W : World) (v : Value) (base n : Nat) (f : Nat → Int) (hs : a.eval s = v) (hw : w = W.alloc (.cells #[.int k (f n)] T)) (hx : a.eval x = .slice (some ⟨W.heap.size, 0, none⟩) 1 1)
    (hown : OwnZ W base T k v n f) (hn : n ≤ 100000000) (hbase : base ≤ W.heap.size)
    (h : ∀ v' w', OwnZ w' base T k v' (n + 1) f → W.grownBy w' v.ownBlock → wpList P ops Q rest (a.put o.dst v') w') :
    wpList P ops Q (o :: rest) a w := by
  subst hw
  obtain ⟨i0, hi, hz0, hz1, hz2⟩ := info_parts hI
  have hown2 : (W.alloc (.cells #[.int k (f n)] T)).ownsRow base T 1 v n (rowZ k n f) := World.ownsRow.alloc hown _
  refine wpList_append_own _ hgd s x S ho base T i0 (.int k 0) 1 bytes hS hi hz0 hz1 hz2 rfl (by decide) _ n _ hs hown2 ⟨W.heap.size, 0, none⟩ 1 1 [.int k (f n)] hx rfl ?_ ?_ (by unfold maxLen; omega) (by
    have := Nat.mul_le_mul (show n + 1 ≤ 100000001 by omega) hby
    omega) (by show base ≤ (W.heap.push _).size; rw [Array.size_push]; omega) ?_
  · intro j u hj
    have h1 : j < 1 := (List.getElem?_eq_some_iff.1 hj).1
    obtain rfl : j = 0 := by omega
    rw [add_none, cell_of_block (last_block0 W (.cells #[.int k (f n)] T) _ rfl)]
    exact hj
  · intro u hu
    obtain rfl := List.mem_singleton.1 hu
    rfl
  · intro v' w' h1 h2 h3
    refine h v' w' ?_ ?_
    · unfold OwnZ
      rw [← rowZ_snoc]
      exact h1
    · have hsz : (W.alloc (.cells #[.int k (f n)] T)).heap.size = W.heap.size + 1 := by show (W.heap.push _).size = _; rw [Array.size_push]
      refine ⟨h2.os, h2.tape, h2.output, by have := h2.size; omega, fun i hi hne => (h2.block i (by omega) hne).trans (Below.heap_alloc W _ i hi)⟩
set_option maxRecDepth 100000 in
/-- the same, the number spelled otherwise -/
theorem wpList_snocX {P : Program} {S T : TypeId} {k : IntKind} {bytes : Nat} (hS : P.underlying S = some (.slice T)) (hI : (P.info? T).map (fun i => (i.zero, i.size, i.bytes)) = some (some (.int k 0), 1, bytes)) (hby : bytes ≤ 8)
    {ops : Array Oper} {rest : List Oper} {o : Oper} {a : Act} {w : World} {Q : Exit → Act → World → Prop} (hgd : o.guard = none) (s x : Operand)
    (ho : o.op = .call { callee := .builtin .append, args := #[s, x], argTypes := #[S, S] })
    (W : World) (v : Value) (base n : Nat) (f : Nat → Int) (u : Int) (hu : u = f n) (hs : a.eval s = v) (hw : w = W.alloc (.cells #[.int k u] T)) (hx : a.eval x = .slice (some ⟨W.heap.size, 0, none⟩) 1 1)
    (hown : OwnZ W base T k v n f) (hn : n ≤ 100000000) (hbase : base ≤ W.heap.size)
    (h : ∀ v' w', OwnZ w' base T k v' (n + 1) f → W.grownBy w' v.ownBlock → wpList P ops Q rest (a.put o.dst v') w') :
    wpList P ops Q (o :: rest) a w := by
  subst hu
  exact wpList_snocZ hS hI hby hgd s x ho W v base n f hs hw hx hown hn hbase h
set_option maxRecDepth 100000 in
/-- the same as a run of the operation -/
theorem run_snocZ {P : Program} {S T : TypeId} {k : IntKind} {bytes : Nat} (hS : P.underlying S = some (.slice T)) (hI : (P.info? T).map (fun i => (i.zero, i.size, i.bytes)) = some (some (.int k 0), 1, bytes)) (hby : bytes ≤ 8)
    (W : World) (v : Value) (base n : Nat) (f : Nat → Int) (x : Int) (hx : x = f n) (hown : OwnZ W base T k v n f) (hn : n ≤ 100000000) (hbase : base ≤ W.heap.size) (ty : TypeId) :
    ∃ v' w', (Builtin.append_ #[S, S] ty #[v, .slice (some ⟨W.heap.size, 0, none⟩) 1 1]).run P (W.alloc (.cells #[.int k x] T)) = .ok v' w' ∧ OwnZ w' base T k v' (n + 1) f ∧ W.grownBy w' v.ownBlock := by
  subst hx
  obtain ⟨i0, hi, hz0, hz1, hz2⟩ := info_parts hI
  have hown2 : (W.alloc (.cells #[.int k (f n)] T)).ownsRow base T 1 v n (rowZ k n f) := World.ownsRow.alloc hown _
  have hsz : (W.alloc (.cells #[.int k (f n)] T)).heap.size = W.heap.size + 1 := by show (W.heap.push _).size = _; rw [Array.size_push]
  obtain ⟨v', w', hr, h1, h2, _⟩ := run_append_own (P := P) (W.alloc (.cells #[.int k (f n)] T)) base S ty T i0 (.int k 0) 1 bytes hS hi hz0 hz1 hz2 rfl (by decide) v n _ hown2 ⟨W.heap.size, 0, none⟩ 1 1 [.int k (f n)] rfl (by
    intro j u hj
    have h1 : j < 1 := (List.getElem?_eq_some_iff.1 hj).1
    obtain rfl : j = 0 := by omega
    rw [add_none, cell_of_block (last_block0 W (.cells #[.int k (f n)] T) _ rfl)]
    exact hj) (by
    intro u hu
    obtain rfl := List.mem_singleton.1 hu
    rfl) (by unfold maxLen; omega) (by
    have := Nat.mul_le_mul (show n + 1 ≤ 100000001 by omega) hby
    omega) (by omega)
  refine ⟨v', w', hr, ?_, h2.os, h2.tape, h2.output, by have := h2.size; omega, fun i hi hne => (h2.block i (by omega) hne).trans (Below.heap_alloc W _ i hi)⟩
  unfold OwnZ
  rw [← rowZ_snoc]
  exact h1
end Go.Proofs.Ytdpngimcmohmaaa
