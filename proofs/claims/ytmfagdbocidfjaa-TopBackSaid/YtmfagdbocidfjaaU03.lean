import Derived.Test.YtmfagdbocidfjaaU02
import Derived.Laws.AppendOwnNone
import Derived.Test.YtmfagdbocidfjaaU01
import Derived.IntWalk
/- Rows of numbers of any kind that a call made itself and appends to one at a time. Lemmas alone. -/
namespace Go.Proofs.Ytmfagdbocidfjaa
open Go.RowKit
/-- numbers as cells -/
def rowZ (k : IntKind) (n : Nat) (f : Nat → Int) : List Value := (List.range n).map fun i => .int k (f i)
set_option maxRecDepth 100000 in
theorem rowZ_get (k : IntKind) (n : Nat) (f : Nat → Int) (i : Nat) (hi : i < n) : (rowZ k n f)[i]? = some (.int k (f i)) := by simp [rowZ, hi]
set_option maxRecDepth 100000 in
theorem rowZ_length (k : IntKind) (n : Nat) (f : Nat → Int) : (rowZ k n f).length = n := by simp [rowZ]
set_option maxRecDepth 100000 in
theorem rowZ_snoc (k : IntKind) (n : Nat) (f : Nat → Int) : rowZ k n f ++ [.int k (f n)] = rowZ k (n + 1) f := by
  unfold rowZ
  rw [List.range_succ]
  simp
def OwnZ (w : World) (base : Nat) (T : TypeId) (k : IntKind) (v : Value) (n : Nat) (f : Nat → Int) : Prop := w.ownsRow base T 1 v n (rowZ k n f)
set_option maxRecDepth 100000 in
theorem OwnZ.nil (w : World) (base : Nat) (T : TypeId) (k : IntKind) (f : Nat → Int) : OwnZ w base T k (.slice none 0 0) 0 f := World.ownsRow_nil _ _ _ _
set_option maxRecDepth 100000 in
theorem OwnZ.lt {w : World} {base n : Nat} {T : TypeId} {k : IntKind} {v : Value} {f : Nat → Int} (h : OwnZ w base T k v n f) : ∀ g, v.ownBlock = some g → base ≤ g ∧ g < w.heap.size := World.ownsRow.lt h
set_option maxRecDepth 100000 in
theorem OwnZ.kept {w w' : World} {base n : Nat} {T : TypeId} {k : IntKind} {v : Value} {f : Nat → Int} {row : Option Nat} (h : OwnZ w base T k v n f) (hg : w.grownBy w' row) (hne : ∀ b, row = some b → b < base) : OwnZ w' base T k v n f := by
  refine World.ownsRow.kept h hg ?_
  rcases hv : v.ownBlock with _ | b
  · exact .inl rfl
  · refine .inr (fun e => ?_)
    have h1 := h.lt b hv
    have h2 := hne b e.symm
    omega
set_option maxRecDepth 100000 in
theorem OwnZ.below {w w' : World} {base n : Nat} {T : TypeId} {k : IntKind} {v : Value} {f : Nat → Int} (h : OwnZ w base T k v n f) (hb : Below w.heap.size w w') : OwnZ w' base T k v n f := by
  refine ⟨h.1, ?_⟩
  rcases h.2 with h1 | ⟨g, cap, cur, hv, h2, hg, h3⟩
  · exact .inl h1
  · exact .inr ⟨g, cap, cur, hv, h2, (hb.block g (Array.getElem?_eq_some_iff.1 hg).1).trans hg, h3⟩
set_option maxRecDepth 100000 in
theorem OwnZ.congr {w : World} {base n : Nat} {T : TypeId} {k : IntKind} {v : Value} {f f' : Nat → Int} (h : OwnZ w base T k v n f) (e : ∀ j, j < n → f j = f' j) : OwnZ w base T k v n f' := by
  unfold OwnZ rowZ at *
  rw [show ((List.range n).map fun i => Value.int k (f' i)) = (List.range n).map fun i => Value.int k (f i) from List.map_congr_left fun j hj => by rw [e j (by simpa using hj)]]
  exact h
/-- a slice's first n numbers are f's -/
def ZAt (w : World) (k : IntKind) (s : Option Addr) (n : Nat) (f : Nat → Int) : Prop := ∀ i, i < n → ∃ b off, s = some ⟨b, off, none⟩ ∧ w.cell? ⟨b, off + i, none⟩ = some (.int k (f i))
set_option maxRecDepth 100000 in
theorem ZAt.below {w w' : World} {k : IntKind} {s : Option Addr} {n : Nat} {f : Nat → Int} (h : ZAt w k s n f) (hb : Below w.heap.size w w') : ZAt w' k s n f := by
  intro i hi
  obtain ⟨b, off, hs, hc⟩ := h i hi
  exact ⟨b, off, hs, by rw [hb.cell (p := ⟨b, off + i, none⟩) (cell_block_lt hc)]; exact hc⟩
set_option maxRecDepth 100000 in
theorem OwnZ.open {w : World} {base n : Nat} {T : TypeId} {k : IntKind} {v : Value} {f : Nat → Int} (h : OwnZ w base T k v n f) : ∃ s cap, v = .slice s n cap ∧ ZAt w k s n f ∧ n ≤ cap ∧ cap ≤ maxLen ∧ (s = none → n = 0 ∧ cap = 0) := by
  rcases h.2 with ⟨h1, h2⟩ | ⟨g, cap, cur, hv, hb, hg, q1, q2, q3, q4⟩
  · subst h2
    exact ⟨none, 0, h1, fun i hi => absurd hi (by omega), Nat.le_refl _, by unfold maxLen; omega, fun _ => ⟨rfl, rfl⟩⟩
  · refine ⟨some ⟨g, 0, none⟩, cap, hv, fun i hi => ⟨g, 0, rfl, ?_⟩, q1, q2, (fun e => by cases e)⟩
    rw [Nat.zero_add, cell_of_block hg]
    have e := rowZ_get k n f i hi
    rw [← q4, List.getElem?_take, if_pos (by omega), Array.getElem?_toList] at e
    exact e
set_option maxRecDepth 100000 in
theorem below_grown {B : Nat} {W a b : World} {row : Option Nat} (h : Below B W a) (hB : B ≤ W.heap.size) (hg : a.grownBy b row) (hp : ∀ p, row = some p → B ≤ p) : Below B W b :=
  ⟨hg.os.trans h.os, hg.tape.trans h.tape, hg.output.trans h.output, Nat.le_trans h.size hg.size, fun i hi => (hg.block i (by have := h.size; omega) (fun e => by have := hp i e.symm; omega)).trans (h.block i hi)⟩
set_option maxRecDepth 100000 in
/-- append(s, x), one number -/
theorem wpList_snocZ {P : Program} {S T : TypeId} {k : IntKind} {bytes : Nat} (hS : P.underlying S = some (.slice T)) (hI : (P.info? T).map (fun i => (i.zero, i.size, i.bytes)) = some (some (.int k 0), 1, bytes)) (hby : bytes ≤ 8)
    {ops : Array Oper} {rest : List Oper} {o : Oper} {a : Act} {w : World} {Q : Exit → Act → World → Prop} (hgd : o.guard = none) (s x : Operand)
    (ho : o.op = .call { callee := .builtin .append, args := #[s, x], argTypes := #[S, S] })
    (W : World) (v : Value) (base n : Nat) (f : Nat → Int) (hs : a.eval s = v) (hw : w = W.alloc (.cells #[.int k (f n)] T)) (hx : a.eval x = .slice (some ⟨W.heap.size, 0, none⟩) 1 1)
    (hown : OwnZ W base T k v n f) (hn : n ≤ 100000000) (hbase : base ≤ W.heap.size)
    (h : ∀ v' w', OwnZ w' base T k v' (n + 1) f → W.grownBy w' v.ownBlock → wpList P ops Q rest (a.put o.dst v') w') :
    wpList P ops Q (o :: rest) a w := by
  subst hw
  obtain ⟨i0, hi, hz0, hz1, hz2⟩ := info_parts hI
  have hown2 : (W.alloc (.cells #[.int k (f n)] T)).ownsRow base T 1 v n (rowZ k n f) := World.ownsRow.alloc hown _
  refine wpList_append_own _ hgd s x S ho base T i0 (.int k 0) 1 bytes hS hi hz0 hz1 hz2 rfl (by decide) _ n _ hs hown2 ⟨W.heap.size, 0, none⟩ 1 1 [.int k (f n)] hx rfl ?_ ?_ (by unfold maxLen; omega) (by
    have := Nat.mul_le_mul (show n + 1 ≤ 100000001 by omega) hby
    omega) (by show base ≤ (W.heap.push _).size; rw [Array.size_push]; omega) ?_
  · intro j u hj
    have h1 : j < 1 := (List.getElem?_eq_some_iff.1 hj).1
    obtain rfl : j = 0 := by omega
    rw [add_none, cell_of_block (last_block0 W (.cells #[.int k (f n)] T) _ rfl)]
    exact hj
  · intro u hu
    obtain rfl := List.mem_singleton.1 hu
    rfl
  · intro v' w' h1 h2 h3
    refine h v' w' ?_ ?_
    · unfold OwnZ
      rw [← rowZ_snoc]
      exact h1
    · have hsz : (W.alloc (.cells #[.int k (f n)] T)).heap.size = W.heap.size + 1 := by show (W.heap.push _).size = _; rw [Array.size_push]
      refine ⟨h2.os, h2.tape, h2.output, by have := h2.size; omega, fun i hi hne => (h2.block i (by omega) hne).trans (Below.heap_alloc W _ i hi)⟩
set_option maxRecDepth 100000 in
/-- the same, the number spelled otherwise -/
theorem wpList_snocX {P : Program} {S T : TypeId} {k : IntKind} {bytes : Nat} (hS : P.underlying S = some (.slice T)) (hI : (P.info? T).map (fun i => (i.zero, i.size, i.bytes)) = some (some (.int k 0), 1, bytes)) (hby : bytes ≤ 8)
    {ops : Array Oper} {rest : List Oper} {o : Oper} {a : Act} {w : World} {Q : Exit → Act → World → Prop} (hgd : o.guard = none) (s x : Operand)
    (ho : o.op = .call { callee := .builtin .append, args := #[s, x], argTypes := #[S, S] })
    (W : World) (v : Value) (base n : Nat) (f : Nat → Int) (u : Int) (hu : u = f n) (hs : a.eval s = v) (hw : w = W.alloc (.cells #[.int k u] T)) (hx : a.eval x = .slice (some ⟨W.heap.size, 0, none⟩) 1 1)
    (hown : OwnZ W base T k v n f) (hn : n ≤ 100000000) (hbase : base ≤ W.heap.size)
    (h : ∀ v' w', OwnZ w' base T k v' (n + 1) f → W.grownBy w' v.ownBlock → wpList P ops Q rest (a.put o.dst v') w') :
    wpList P ops Q (o :: rest) a w := by
  subst hu
  exact wpList_snocZ hS hI hby hgd s x ho W v base n f hs hw hx hown hn hbase h
set_option maxRecDepth 100000 in
/-- the same as a run of the operation -/
theorem run_snocZ {P : Program} {S T : TypeId} {k : IntKind} {bytes : Nat} (hS : P.underlying S = some (.slice T)) (hI : (P.info? T).map (fun i => (i.zero, i.size, i.bytes)) = some (some (.int k 0), 1, bytes)) (hby : bytes ≤ 8)
    (W : World) (v : Value) (base n : Nat) (f : Nat → Int) (x : Int) (hx : x = f n) (hown : OwnZ W base T k v n f) (hn : n ≤ 100000000) (hbase : base ≤ W.heap.size) (ty : TypeId) :
    ∃ v' w', (Builtin.append_ #[S, S] ty #[v, .slice (some ⟨W.heap.size, 0, none⟩) 1 1]).run P (W.alloc (.cells #[.int k x] T)) = .ok v' w' ∧ OwnZ w' base T k v' (n + 1) f ∧ W.grownBy w' v.ownBlock := by
  subst hx
  obtain ⟨i0, hi, hz0, hz1, hz2⟩ := info_parts hI
  have hown2 : (W.alloc (.cells #[.int k (f n)] T)).ownsRow base T 1 v n (rowZ k n f) := World.ownsRow.alloc hown _
  have hsz : (W.alloc (.cells #[.int k (f n)] T)).heap.size = W.heap.size + 1 := by show (W.heap.push _).size = _; rw [Array.size_push]
  obtain ⟨v', w', hr, h1, h2, _⟩ := run_append_own (P := P) (W.alloc (.cells #[.int k (f n)] T)) base S ty T i0 (.int k 0) 1 bytes hS hi hz0 hz1 hz2 rfl (by decide) v n _ hown2 ⟨W.heap.size, 0, none⟩ 1 1 [.int k (f n)] rfl (by
    intro j u hj
    have h1 : j < 1 := (List.getElem?_eq_some_iff.1 hj).1
    obtain rfl : j = 0 := by omega
    rw [add_none, cell_of_block (last_block0 W (.cells #[.int k (f n)] T) _ rfl)]
    exact hj) (by
    intro u hu
    obtain rfl := List.mem_singleton.1 hu
    rfl) (by unfold maxLen; omega) (by
    have := Nat.mul_le_mul (show n + 1 ≤ 100000001 by omega) hby
    omega) (by omega)
  refine ⟨v', w', hr, ?_, h2.os, h2.tape, h2.output, by have := h2.size; omega, fun i hi hne => (h2.block i (by omega) hne).trans (Below.heap_alloc W _ i hi)⟩
  unfold OwnZ
  rw [← rowZ_snoc]
  exact h1
end Go.Proofs.Ytmfagdbocidfjaa

/- Rings as they lie in memory. Lemmas alone. -/
namespace Go.Proofs.Ytmfagdbocidfjaa
open Go.RowKit
/-- only the blocks in p, and new ones, may have turned -/
structure Touch (W W' : World) (p : Nat → Prop) : Prop where
  os : W'.os = W.os
  tape : W'.tape = W.tape
  output : W'.output = W.output
  size : W.heap.size ≤ W'.heap.size
  block : ∀ k, k < W.heap.size → ¬ p k → W'.heap[k]? = W.heap[k]?
set_option maxRecDepth 100000 in
theorem Touch.refl (W : World) (p : Nat → Prop) : Touch W W p := ⟨rfl, rfl, rfl, Nat.le_refl _, fun _ _ _ => rfl⟩
set_option maxRecDepth 100000 in
theorem Touch.mono {W W' : World} {p q : Nat → Prop} (h : Touch W W' p) (e : ∀ k, k < W.heap.size → p k → q k) : Touch W W' q := ⟨h.os, h.tape, h.output, h.size, fun k hk hq => h.block k hk (fun hp => hq (e k hk hp))⟩
set_option maxRecDepth 100000 in
theorem Touch.trans {a b c : World} {p : Nat → Prop} (h : Touch a b p) (k : Touch b c (fun i => p i ∨ a.heap.size ≤ i)) : Touch a c p :=
  ⟨k.os.trans h.os, k.tape.trans h.tape, k.output.trans h.output, Nat.le_trans h.size k.size, fun i hi hp => (k.block i (Nat.lt_of_lt_of_le hi h.size) (fun e => e.elim hp (fun e => by omega))).trans (h.block i hi hp)⟩
set_option maxRecDepth 100000 in
theorem Touch.below {W W' : World} (h : Below W.heap.size W W') (p : Nat → Prop) : Touch W W' p := ⟨h.os, h.tape, h.output, h.size, fun k hk _ => h.block k hk⟩
set_option maxRecDepth 100000 in
theorem Touch.grown {W W' : World} {row : Option Nat} (h : W.grownBy W' row) {p : Nat → Prop} (e : ∀ b, row = some b → p b) : Touch W W' p := ⟨h.os, h.tape, h.output, h.size, fun k hk hp => h.block k hk (fun he => hp (e k he.symm))⟩
set_option maxRecDepth 100000 in
theorem Touch.drewN {W W' : World} {p : Nat → Prop} (h : Touch W W' p) (n : Nat) : Touch W (W'.drewN n) p := ⟨h.os, h.tape, h.output, h.size, h.block⟩
/-- where an entry stands; -1: it isn't kept -/
def ringP (first n : Nat) (i : Int) : Int := if i < (first : Int) ∨ (first : Int) + n ≤ i then -1 else i - first
section
variable {P : Program} {ops : Array Oper} {Q : Exit → Act → World → Prop} {S : World → Prop}
set_option maxRecDepth 100000 in
/-- two operations that only read, ready at once, in either order -/
theorem h_twoV {i j : Nat} {oi oj : Oper} {vi vj : Value} {fuel : Nat} {listed : Array Bool} {a : Act} {w : World}
    (hi0 : opAt ops.toList i = some oi) (hj0 : opAt ops.toList j = some oj)
    (r0 : Region.ready .any ops listed = [i, j]) (ri : Region.ready .any ops (listed.setIfInBounds i true) = [j]) (rj : Region.ready .any ops (listed.setIfInBounds j true) = [i])
    (wi : ∀ t, Region.wanted oi t = true) (wj : ∀ t, Region.wanted oj t = true)
    (ei : (execOp a.eval oi).run P w = .ok (.value vi) w) (ej : (execOp a.eval oj).run P w = .ok (.value vj) w)
    (ei' : (execOp (a.put oj.dst vj).eval oi).run P w = .ok (.value vi) w) (ej' : (execOp (a.put oi.dst vi).eval oj).run P w = .ok (.value vj) w)
    (hl : (listed.setIfInBounds j true).setIfInBounds i true = (listed.setIfInBounds i true).setIfInBounds j true) (ha : (a.put oj.dst vj).put oi.dst vi = (a.put oi.dst vi).put oj.dst vj)
    (hS : S w) (h : wpAnyH P .any ops (NoPanic Q) S fuel ((listed.setIfInBounds i true).setIfInBounds j true) ((a.put oi.dst vi).put oj.dst vj) w) :
    wpAnyH P .any ops (NoPanic Q) S (fuel + 1 + 1) listed a w := by
  refine wpAnyH_all r0 (by simp) (fun m hm => ?_)
  have hm2 : m = i ∨ m = j := by simpa using hm
  rcases hm2 with rfl | rfl
  · refine wpOp_step (opAt_of hi0) (fun K' hK => ?_)
    rw [if_pos (wi _)]
    unfold Oper.wp
    rw [ei]
    exact hK _ _ ⟨hS, h_value (i := j) S (fun _ h => h) hj0 ri (wj _) ej' hS h⟩
  · refine wpOp_step (opAt_of hj0) (fun K' hK => ?_)
    rw [if_pos (wj _)]
    unfold Oper.wp
    rw [ej]
    refine hK _ _ ⟨hS, h_value (i := i) S (fun _ h => h) hi0 rj (wi _) ei' hS ?_⟩
    rw [hl, ha]
    exact h
end
set_option maxRecDepth 100000 in
theorem Touch.toBelow {W W' : World} {p : Nat → Prop} (h : Touch W W' p) {B : Nat} (hB : B ≤ W.heap.size) (hp : ∀ b, p b → B ≤ b) : Below B W W' := ⟨h.os, h.tape, h.output, h.size, fun k hk => h.block k (by omega) (fun he => by have := hp k he; omega)⟩
end Go.Proofs.Ytmfagdbocidfjaa

/- The ring of inputs. Conditions: what its blocks hold. -/
namespace Go.Proofs.Ytmfagdbocidfjaa
open Go.RowKit
/-- a ring: for how many there is room, the first one's number, its row -/
structure RingIAt (W : World) (lo r room first n : Nat) (v : Value) (xs : List Value) : Prop where
  blk : W.heap[r]? = some (.cells #[.int .i64 (room : Nat), .int .i64 (first : Nat), v] 177 (0, 0))
  row : VAt W lo 34 1 v n xs
  lr : lo ≤ r
set_option maxRecDepth 100000 in
theorem RingIAt.keep {W W' : World} {lo r room first n : Nat} {v : Value} {xs : List Value} (h : RingIAt W lo r room first n v xs) (e : W'.heap[r]? = W.heap[r]?) (e2 : ∀ b, v.ownBlock = some b → W'.heap[b]? = W.heap[b]?) : RingIAt W' lo r room first n v xs :=
  ⟨e.trans h.blk, h.row.kept e2, h.lr⟩
set_option maxRecDepth 100000 in
theorem RingIAt.drewN {W : World} {lo r room first n : Nat} {v : Value} {xs : List Value} (h : RingIAt W lo r room first n v xs) (q : Nat) : RingIAt (W.drewN q) lo r room first n v xs := h.keep rfl (fun _ _ => rfl)
section
set_option maxRecDepth 100000 in
set_option maxHeartbeats 1000000 in
theorem RingI_next (lo r room first n : Nat) (v : Value) (xs : List Value) (w : World) (h : RingIAt w lo r room first n v xs) (hb : first + n ≤ 1000000) :
    Calls Try.prog 71 #[.pointer (some ⟨r, 0, none⟩)] w fun e w' => e = .returned (.int .i64 ((first + n : Nat) : Int)) ∧ ∃ q, w' = w.drewN q := by
  obtain ⟨s, cap, rfl, _, _⟩ := h.row.form
  have c1 := (cell_of_block h.blk (i := 1)).trans rfl
  have c2 := (cell_of_block h.blk (i := 2)).trans rfl
  have hs : IntKind.i64.wrap ((first : Int) + (n : Int)) = ((first + n : Nat) : Int) := by rw [show (first : Int) + (n : Int) = ((first + n : Nat) : Int) by omega]; exact IntWalk.i64_in _ (by omega)
  clear h hb
  go_enter Try.func71, Try.ntmps71
  go_upto_region 1 with (fail)
  go_quiet (fail)
  go_wp2_with fail
  go_ret
  exact ⟨rfl, _, rfl⟩
set_option maxRecDepth 100000 in
set_option maxHeartbeats 1000000 in
theorem RingI_place (lo r room first n : Nat) (v : Value) (xs : List Value) (i : Int) (w : World) (h : RingIAt w lo r room first n v xs) (hb : first + n ≤ 1000000) (hi : -1000000 ≤ i ∧ i ≤ 1000000) :
    Calls Try.prog 91 #[.pointer (some ⟨r, 0, none⟩), .int .i64 i] w fun e w' => e = .returned (.int .i64 (ringP first n i)) ∧ ∃ q, w' = w.drewN q := by
  obtain ⟨s, cap, rfl, _, _⟩ := h.row.form
  have c1 := (cell_of_block h.blk (i := 1)).trans rfl
  have c2 := (cell_of_block h.blk (i := 2)).trans rfl
  have hs : IntKind.i64.wrap (i - (first : Int)) = i - (first : Int) := IntWalk.i64_in _ (by omega)
  have hp : ringP first n i = if i < (first : Int) ∨ (first : Int) + n ≤ i then -1 else i - first := rfl
  by_cases h0 : i < (first : Int)
  · have hr : ringP first n i = -1 := by rw [hp, if_pos (.inl h0)]
    rw [hr]
    have d0 : decide (i < (first : Int)) = true := decide_eq_true h0
    clear h hb hi hr hp
    go_enter Try.func91, Try.ntmps91
    go_upto_region 1 with (fail)
    go_quiet (fail)
    go_wp2_with fail
    go_ret
    exact ⟨rfl, _, rfl⟩
  · have d0 : decide (i < (first : Int)) = false := decide_eq_false h0
    by_cases h1 : (first : Int) + n ≤ i
    · have hr : ringP first n i = -1 := by rw [hp, if_pos (.inr h1)]
      rw [hr]
      have d1 : decide (i - (first : Int) ≥ (n : Int)) = true := decide_eq_true (by omega)
      clear h hb hi hr hp
      go_enter Try.func91, Try.ntmps91
      go_upto_region 1 with (fail)
      go_quiet (fail)
      go_wp2_with fail
      go_ret
      exact ⟨rfl, _, rfl⟩
    · have hr : ringP first n i = i - first := by rw [hp, if_neg (by omega)]
      rw [hr]
      have d1 : decide (i - (first : Int) ≥ (n : Int)) = false := decide_eq_false (by omega)
      clear h hb hi hr hp
      go_enter Try.func91, Try.ntmps91
      go_upto_region 1 with (fail)
      go_quiet (fail)
      go_wp2_with fail
      go_ret
      exact ⟨rfl, _, rfl⟩
set_option maxRecDepth 100000 in
set_option maxHeartbeats 1000000 in
theorem RingI_new (room : Nat) (w : World) (hr : 1 ≤ room ∧ room ≤ 4096) :
    Calls Try.prog 61 #[.int .i64 (room : Nat)] w fun e w' => e = .returned (.tuple #[.pointer (some ⟨w.heap.size, 0, none⟩), .int .i64 0]) ∧ w' = w.alloc (.cells #[.int .i64 (room : Nat), .int .i64 (0 : Nat), .slice none 0 0] 177) := by
  have d0 : decide ((room : Int) < 1) = false := decide_eq_false (by omega)
  have d00 : decide (room < 1) = false := decide_eq_false (by omega)
  have d1 : decide ((4096 : Int) < (room : Int)) = false := decide_eq_false (by omega)
  have d11 : decide (4096 < room) = false := decide_eq_false (by omega)
  clear hr
  go_enter Try.func61, Try.ntmps61
  go_wp2_with fail
  go_ret2
  exact ⟨rfl, rfl⟩
end
end Go.Proofs.Ytmfagdbocidfjaa

/- Numbers written behind bytes. Conditions: the bytes read as a row. -/
namespace Go.Proofs.Ytmfagdbocidfjaa
open Go.RowKit
set_option maxRecDepth 100000 in
theorem exec_appendV {P : Program} {o : Oper} {a : Act} {w w' : World} {v x r : Value} (s y : Operand) (t u : TypeId) (ho : o.op = .call { callee := .builtin .append, args := #[s, y], argTypes := #[t, u] })
    (hs : a.eval s = v) (hx : a.eval y = x) (hr : (Builtin.append_ #[t, u] o.type #[v, x]).run P w = .ok r w') : (execOp a.eval o).run P w = .ok (.value r) w' := by
  unfold execOp
  simp only [ho, resolve, invoke, builtin, Sem.run_bind, Sem.run_pure, Result.andThen_ok, List.map_toArray, List.map_cons, List.map_nil, hs, hx, hr]
set_option maxRecDepth 100000 in
theorem wpList_app_runV {P : Program} {ops : Array Oper} {rest : List Oper} {o : Oper} {a : Act} {w w' : World} {Q : Exit → Act → World → Prop} {v xv r : Value} (hgd : o.guard = none) (s x : Operand) (t u : TypeId)
    (ho : o.op = .call { callee := .builtin .append, args := #[s, x], argTypes := #[t, u] }) (hs : a.eval s = v) (hx : a.eval x = xv)
    (hr : (Builtin.append_ #[t, u] o.type #[v, xv]).run P w = .ok r w') (h : wpList P ops Q rest (a.put o.dst r) w') : wpList P ops Q (o :: rest) a w :=
  wpList_plain hgd fun _ hK => by
    unfold Oper.wp
    rw [exec_appendV s x t u ho hs hx hr]
    exact hK _ _ h
set_option maxRecDepth 100000 in
/-- append(s, p...) -/
theorem info_u8 : (Try.prog.info? 5).map (fun i => (i.zero, i.size, i.bytes)) = some (some (.int .u8 0), 1, 1) := by kernel_rfl
set_option maxRecDepth 100000 in
/-- a slice cut at its length: what is appended goes to a new block -/
theorem VAt.full {W : World} {lo : Nat} {T : TypeId} {sz : Nat} {b off n cap : Nat} {xs : List Value} (h : VAt W lo T sz (.slice (some ⟨b, off, none⟩) n cap) n xs) : VAt W lo T sz (.slice (some ⟨b, off, none⟩) n n) n xs := by
  refine ⟨h.1, h.2.1, ?_⟩
  rcases h.2.2 with ⟨h2, _⟩ | ⟨b', off', cap', C, hv, h2, h3, h4, h5, h6, h7⟩
  · cases h2
  · cases hv
    exact .inr ⟨b, off, n, C, rfl, h2, h3, Nat.le_refl _, by omega, fun hn => by
      have := h6 (by omega)
      have := Nat.mul_le_mul_right sz h4
      omega, h7⟩
def bytesOf (l : List Int) : List Value := l.map fun x => .int .u8 x
/-- what such a call gives: the bytes, and some more behind them, in a new block -/
def PutRow (W : World) (n : Nat) (xs : List Value) (l : List Int) (e : Ending) (W' : World) : Prop := ∃ v', e = .returned v' ∧ VAt W' W.heap.size 5 1 v' (n + l.length) (xs ++ bytesOf l) ∧ Below W.heap.size W W'
def be4 (x : Int) : List Int := [x / 16777216 % 256, x / 65536 % 256, x / 256 % 256, x % 256]
set_option maxRecDepth 100000 in
theorem VAt.rebase {W : World} {lo lo' : Nat} {T : TypeId} {sz : Nat} {v : Value} {n : Nat} {xs : List Value} (h : VAt W lo T sz v n xs) (hf : ∀ b, v.ownBlock = some b → lo' ≤ b) : VAt W lo' T sz v n xs := by
  refine ⟨h.1, h.2.1, ?_⟩
  rcases h.2.2 with h | ⟨b, off, cap, C, rfl, h2, h3⟩
  · exact .inl h
  · exact .inr ⟨b, off, cap, C, rfl, hf b rfl, h3⟩
set_option maxRecDepth 100000 in
theorem bytesOf_length (l : List Int) : (bytesOf l).length = l.length := by unfold bytesOf; simp
set_option maxRecDepth 100000 in
theorem bytesOf_one (l : List Int) : ∀ u ∈ bytesOf l, u.oneCell' = true := fun u hu => by
  unfold bytesOf at hu
  obtain ⟨x, _, rfl⟩ := List.mem_map.1 hu
  rfl
set_option maxRecDepth 100000 in
theorem v_put (w : World) (v : Value) (n lo : Nat) (xs : List Value) (h : VAt w lo 5 1 v n xs) (hf : ∀ s k cap, v = .slice s k cap → cap = n) (l : List Int) (hl : 0 < l.length) (hn : n + l.length ≤ 1000000) (ty : TypeId) :
    ∃ v' W', (Builtin.append_ #[71, 71] ty #[v, .slice (some ⟨w.heap.size, 0, none⟩) l.length l.length]).run Try.prog (w.alloc (.cells (bytesOf l).toArray 5)) = .ok v' W' ∧ PutRow w n xs l (.returned v') W' := by
  have hB : Below w.heap.size w (w.alloc (.cells (bytesOf l).toArray 5)) := (Below.refl _ _).alloc (Nat.le_refl _) _
  have hsz : (w.alloc (.cells (bytesOf l).toArray 5)).heap.size = w.heap.size + 1 := by show (w.heap.push _).size = _; rw [Array.size_push]
  have hblk : (w.alloc (.cells (bytesOf l).toArray 5)).heap[w.heap.size]? = some (.cells (bytesOf l).toArray 5 (0, 0)) := by
    show (w.heap.push _)[w.heap.size]? = _
    simp
  have h1 : VAt (w.alloc (.cells (bytesOf l).toArray 5)) 0 5 1 v n xs := (h.below hB).base (Nat.zero_le _)
  obtain ⟨v', W', hr, hv, hg, hs, hfull⟩ := v_app (P := Try.prog) (S := 71) (T := 5) Try.underlying71 info_u8 rfl (by decide) (by decide) h1 (Nat.zero_le _) ⟨w.heap.size, 0, none⟩ l.length l.length (bytesOf l) (by rw [bytesOf_length]; omega) (fun j u hj => by
    have : (w.alloc (.cells (bytesOf l).toArray 5)).cell? ⟨w.heap.size, j, none⟩ = some u := by rw [cell_of_block hblk]; simpa using hj
    by_cases hj0 : j = 0
    · subst hj0; simpa [Addr.add] using this
    · simpa [Addr.add, hj0] using this) (bytesOf_one l) hn ty
  obtain ⟨hb, hfr⟩ := hfull (fun s k cap e => by have := hf s k cap e; omega)
  exact ⟨v', W', hr, v', rfl, hv.rebase (fun b hb => by have := hfr b hb; omega), hB.trans (hb.mono (by omega))⟩
set_option maxRecDepth 100000 in
set_option maxHeartbeats 1000000 in
theorem v_put32 (v : Value) (n : Nat) (xs : List Value) (x : Int) (lo : Nat) (w : World) (h : VAt w lo 5 1 v n xs) (hn : n ≤ 100000) :
    Calls Try.prog 52 #[v, .int .u32 x] w (PutRow w n xs (be4 x)) := by
  have hl : (be4 x).length = 4 := rfl
  rcases h.2.2 with ⟨rfl, rfl⟩ | ⟨b, off, cap, C, rfl, h2, h3, h4, h5, h6, h7⟩
  · obtain ⟨v', W', hr, hp⟩ := v_put w _ 0 lo xs h (fun s k cap e => by cases e; rfl) (be4 x) (by rw [hl]; decide) (by omega) 71
    have hrh := Lib.hid hr
    have hph := Lib.hid hp
    clear h hr hp
    go_enter Try.func52, Try.ntmps52
    go_wp2_with (at_builtin; refine wpList_app_runV rfl (.tmp 10) (.tmp 22) _ _ rfl rfl rfl hrh.out ?_)
    go_ret
    exact hph.out
  · obtain ⟨v', W', hr, hp⟩ := v_put w _ n lo xs h.full (fun s k cap e => by cases e; rfl) (be4 x) (by rw [hl]; decide) (by omega) 71
    have hrh := Lib.hid hr
    have hph := Lib.hid hp
    clear h h2 h3 h6 h7 hr hp
    go_enter Try.func52, Try.ntmps52
    go_wp2_with (at_builtin; refine wpList_app_runV rfl (.tmp 10) (.tmp 22) _ _ rfl rfl rfl hrh.out ?_)
    go_ret
    exact hph.out
set_option maxRecDepth 100000 in
theorem bytesOf_app (a b : List Int) : bytesOf (a ++ b) = bytesOf a ++ bytesOf b := by unfold bytesOf; simp
set_option maxRecDepth 100000 in
theorem PutRow.trans {w w1 : World} {n : Nat} {xs : List Value} {v1 : Value} {a b : List Int} {e : Ending} {w2 : World} (_h1 : VAt w1 w.heap.size 5 1 v1 (n + a.length) (xs ++ bytesOf a)) (hB : Below w.heap.size w w1) (h2 : PutRow w1 (n + a.length) (xs ++ bytesOf a) b e w2) : PutRow w n xs (a ++ b) e w2 := by
  obtain ⟨v', rfl, hv, hB2⟩ := h2
  refine ⟨v', rfl, ?_, hB.trans (hB2.mono hB.size)⟩
  rw [bytesOf_app, ← List.append_assoc, List.length_append, ← Nat.add_assoc]
  exact hv.base hB.size
def be8 (x : Int) : List Int := be4 (x / 4294967296 % 4294967296) ++ be4 (x % 4294967296)
def be2 (x : Int) : List Int := [x / 256 % 256, x % 256]
set_option maxRecDepth 100000 in
set_option maxHeartbeats 1000000 in
theorem v_put64 (v : Value) (n : Nat) (xs : List Value) (x : Int) (lo : Nat) (w : World) (h : VAt w lo 5 1 v n xs) (hn : n ≤ 90000) :
    Calls Try.prog 112 #[v, .int .u64 x] w (PutRow w n xs (be8 x)) := by
  obtain ⟨s, cap, rfl, _, _⟩ := h.form
  have hh := Lib.hid h
  clear h
  go_enter Try.func112, Try.ntmps112
  go_wp2_with fail
  refine (v_put32 _ n xs _ lo w hh.out (by omega)).mono ?_
  rintro e w1 ⟨v1, rfl, hv1, hB1⟩
  obtain ⟨s1, cap1, rfl, _, _⟩ := hv1.form
  have hv1h := Lib.hid hv1
  have hB1h := Lib.hid hB1
  clear hv1 hB1
  go_wp2_with fail
  refine (v_put32 _ (n + (be4 (x / 4294967296 % 4294967296)).length) _ _ w.heap.size w1 hv1h.out (by show n + 4 ≤ _; omega)).mono ?_
  rintro e w2 h2
  have hp := Lib.hid (PutRow.trans hv1h.out hB1h.out h2)
  obtain ⟨v2, rfl, _, _⟩ := h2
  go_wp2_with fail
  go_ret
  exact hp.out
set_option maxRecDepth 100000 in
set_option maxHeartbeats 1000000 in
theorem v_put16 (v : Value) (n : Nat) (xs : List Value) (x : Int) (lo : Nat) (w : World) (h : VAt w lo 5 1 v n xs) (hn : n ≤ 100000) :
    Calls Try.prog 51 #[v, .int .u16 x] w (PutRow w n xs (be2 x)) := by
  have hl : (be2 x).length = 2 := rfl
  rcases h.2.2 with ⟨rfl, rfl⟩ | ⟨b, off, cap, C, rfl, h2, h3, h4, h5, h6, h7⟩
  · obtain ⟨v', W', hr, hp⟩ := v_put w _ 0 lo xs h (fun s k cap e => by cases e; rfl) (be2 x) (by rw [hl]; decide) (by omega) 71
    have hrh := Lib.hid hr
    have hph := Lib.hid hp
    clear h hr hp
    go_enter Try.func51, Try.ntmps51
    go_wp2_with (at_builtin; refine wpList_app_runV rfl (.tmp 10) (.tmp 16) _ _ rfl rfl rfl hrh.out ?_)
    go_ret
    exact hph.out
  · obtain ⟨v', W', hr, hp⟩ := v_put w _ n lo xs h.full (fun s k cap e => by cases e; rfl) (be2 x) (by rw [hl]; decide) (by omega) 71
    have hrh := Lib.hid hr
    have hph := Lib.hid hp
    clear h h2 h3 h6 h7 hr hp
    go_enter Try.func51, Try.ntmps51
    go_wp2_with (at_builtin; refine wpList_app_runV rfl (.tmp 10) (.tmp 16) _ _ rfl rfl rfl hrh.out ?_)
    go_ret
    exact hph.out
end Go.Proofs.Ytmfagdbocidfjaa
