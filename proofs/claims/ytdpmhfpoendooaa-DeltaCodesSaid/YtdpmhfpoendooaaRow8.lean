/- Rows of bytes as functions from places to numbers: reading, appending to what a call made itself. Nothing here knows of the field. Lemmas alone. -/
import Derived.Test.YtdpmhfpoendooaaRowF
import Derived.Test.YtdpmhfpoendooaaRead
import Derived.Laws.AppendOwnNone
namespace Go.Proofs.Ytdpmhfpoendooaa
open Go.RowKit
/-- bytes as cells -/
def rowB (l : List Nat) : List Value := l.map fun x => .int .u8 (x : Nat)
theorem rowB_length (l : List Nat) : (rowB l).length = l.length := by simp [rowB]
theorem rowB_get (l : List Nat) (i : Nat) : (rowB l)[i]? = (l[i]?).map fun x => Value.int .u8 (x : Nat) := by simp [rowB]
theorem rowB_set (l : List Nat) (i x : Nat) : (rowB l).set i (.int .u8 (x : Nat)) = rowB (l.set i x) := by simp [rowB, List.map_set]
theorem own_sl {w : World} {base g n cap : Nat} {l : List Nat} (h : w.ownsRow base 5 1 (.slice (some ⟨g, 0, none⟩) n cap) n (rowB l)) : SlN .u8 w (some ⟨g, 0, none⟩) l := by
  intro i x hx
  refine ⟨g, 0, rfl, ?_⟩
  have hn : (rowB l).length = n * 1 := h.1
  have hi : i < l.length := (List.getElem?_eq_some_iff.1 hx).1
  rw [Nat.zero_add, h.cellAt i (by rw [rowB_length] at hn; omega), rowB_get, hx]
  rfl
theorem info8 : (Try.prog.info? 5).map (fun i => (i.zero, i.size, i.bytes)) = some (some (.int .u8 0), 1, 1) := by kernel_rfl
theorem own_open {w : World} {base n : Nat} {v : Value} {xs : List Value} (h : w.ownsRow base 5 1 v n xs) (hne : v ≠ .slice none 0 0) : ∃ g cap, v = .slice (some ⟨g, 0, none⟩) n cap ∧ base ≤ g ∧ g < w.heap.size := by
  rcases h.2 with ⟨h1, _⟩ | ⟨g, cap, cur, hv, hb, hg, _⟩
  · exact absurd h1 hne
  · exact ⟨g, cap, hv, hb, (Array.getElem?_eq_some_iff.1 hg).1⟩
/-- a slice's first n bytes are f's -/
def By (w : World) (s : Option Addr) (n : Nat) (f : Nat → Nat) : Prop := ∀ i, i < n → ∃ b off, s = some ⟨b, off, none⟩ ∧ w.cell? ⟨b, off + i, none⟩ = some (.int .u8 (f i : Nat))
/-- block g's first n cells are f's bytes; it may be written -/
def BRow (w : World) (g n : Nat) (f : Nat → Nat) : Prop := FRow w g 5 .u8 n (fun i => (f i : Nat))
theorem By.below {w w' : World} {s : Option Addr} {n : Nat} {f : Nat → Nat} (h : By w s n f) (hb : Below w.heap.size w w') : By w' s n f := by
  intro i hi
  obtain ⟨b, off, hs, hc⟩ := h i hi
  exact ⟨b, off, hs, by rw [hb.cell (p := ⟨b, off + i, none⟩) (cell_block_lt hc)]; exact hc⟩
theorem By.less {w : World} {s : Option Addr} {n m : Nat} {f : Nat → Nat} (h : By w s n f) (hm : m ≤ n) : By w s m f := fun i hi => h i (by omega)
theorem By.congr {w : World} {s : Option Addr} {n : Nat} {f f' : Nat → Nat} (h : By w s n f) (e : ∀ i, i < n → f i = f' i) : By w s n f' := fun i hi => by rw [← e i hi]; exact h i hi
theorem By.drewN {w : World} {s : Option Addr} {n : Nat} {f : Nat → Nat} (h : By w s n f) (k : Nat) : By (w.drewN k) s n f := h
theorem By.alloc {w : World} {s : Option Addr} {n : Nat} {f : Nat → Nat} (h : By w s n f) (o : Obj) : By (w.alloc o) s n f := h.below ((Below.refl _ _).alloc (Nat.le_refl _) _)
theorem By.sl {w : World} {s : Option Addr} {n : Nat} {f : Nat → Nat} (h : By w s n f) : SlN .u8 w s ((List.range n).map f) := by
  intro i x hx
  have hi : i < n := by have := (List.getElem?_eq_some_iff.1 hx).1; simpa using this
  obtain ⟨b, off, hs, hc⟩ := h i hi
  refine ⟨b, off, hs, ?_⟩
  simp [hi] at hx
  rw [hc, hx]
theorem By.block {w : World} {s : Option Addr} {n : Nat} {f : Nat → Nat} (h : By w s n f) (h0 : 0 < n) : ∃ b off, s = some ⟨b, off, none⟩ ∧ b < w.heap.size := by
  obtain ⟨b, off, hs, hc⟩ := h 0 h0
  exact ⟨b, off, hs, cell_block_lt hc⟩
theorem BRow.by {w : World} {g n : Nat} {f : Nat → Nat} (h : BRow w g n f) : By w (some ⟨g, 0, none⟩) n f := fun i hi => ⟨g, 0, rfl, by rw [Nat.zero_add]; exact FRow.cell h i hi⟩
theorem BRow.at {w : World} {g n : Nat} {f : Nat → Nat} (h : BRow w g n f) (o m : Nat) (hm : o + m ≤ n) : By w (some ⟨g, o, none⟩) m (fun i => f (o + i)) := fun i hi => ⟨g, o, rfl, FRow.cell h (o + i) (by omega)⟩
theorem BRow.congr {w : World} {g n : Nat} {f f' : Nat → Nat} (h : BRow w g n f) (e : ∀ i, i < n → f i = f' i) : BRow w g n f' := FRow.congr h fun i hi => by rw [e i hi]
theorem BRow.set {w : World} {g n : Nat} {f : Nat → Nat} (h : BRow w g n f) (i x : Nat) : BRow (w.setCell ⟨g, i, none⟩ (.int .u8 (x : Nat))) g n (fun j => if j = i then x else f j) :=
  FRow.congr (FRow.set h i x) fun j _ => by dsimp only; split <;> rfl
theorem BRow.less {w : World} {g n m : Nat} {f : Nat → Nat} (h : BRow w g n f) (hm : m ≤ n) : BRow w g m f := FRow.less h m hm
theorem BRow.lt {w : World} {g n : Nat} {f : Nat → Nat} (h : BRow w g n f) : g < w.heap.size := FRow.lt h
theorem BRow.below {B : Nat} {w w' : World} {g n : Nat} {f : Nat → Nat} (h : BRow w g n f) (hb : Below B w w') (hg : g < B) : BRow w' g n f := FRow.below h hb hg
theorem brow_made (w : World) (n : Nat) : BRow (w.alloc (.cells (madeCells #[.int .u8 0] n) 5)) w.heap.size n (fun _ => 0) := frow_made w _ _ n
/-- append([]byte{}, x...): a new row -/
theorem wpList_appB {ops : Array Oper} {rest : List Oper} {o : Oper} {a : Act} {w : World} {Q : Exit → Act → World → Prop} (hgd : o.guard = none) (s x : Operand)
    (ho : o.op = .call { callee := .builtin .append, args := #[s, x], argTypes := #[29, 29] })
    (W : World) (hs : a.eval s = .slice (some ⟨W.heap.size, 0, none⟩) 0 0) (hw : w = W.alloc (.cells #[] 5))
    (A : Option Addr) (c n : Nat) (f : Nat → Nat) (hx : a.eval x = .slice A n c) (hsl : By W A n f) (hnone : A = none → n = 0 ∧ c = 0) (hn : n ≤ 100000000)
    (h : ∀ g cap w', W.heap.size ≤ g → n ≤ cap → cap ≤ maxLen → BRow w' g n f → Below W.heap.size W w' → wpList Try.prog ops Q rest (a.put o.dst (.slice (some ⟨g, 0, none⟩) n cap)) w') :
    wpList Try.prog ops Q (o :: rest) a w := by
  subst hw
  obtain ⟨i0, hi, hz0, hz1, hz2⟩ := info_parts info8
  have hown := World.ownsRow_lit (base := W.heap.size) (e := 5) (size := 1) W #[] 0 (Nat.le_refl _) (by unfold maxLen; omega) rfl
  have hB0 : Below W.heap.size W (W.alloc (.cells #[] 5)) := (Below.refl _ _).alloc (Nat.le_refl _) _
  have hlz : W.heap.size < (W.alloc (.cells #[] 5)).heap.size := by show _ < (W.heap.push _).size; rw [Array.size_push]; omega
  have hsl := hsl.alloc (.cells #[] 5)
  cases A with
  | none =>
    obtain ⟨rfl, rfl⟩ := hnone rfl
    refine wpList_append_own_none hgd s x 29 ho W.heap.size 5 i0 1 Try.underlying29 hi _ 0 _ hs hown hx ?_
    exact h W.heap.size 0 _ (Nat.le_refl _) (Nat.le_refl _) (by unfold maxLen; omega) ⟨_, last_block0 W _ _ rfl, by simp, fun i hi => absurd hi (by omega)⟩ hB0
  | some ad =>
    refine wpList_append_own _ hgd s x 29 ho W.heap.size 5 i0 (.int .u8 0) 1 1 Try.underlying29 hi hz0 hz1 hz2 rfl (by decide) _ 0 _ hs hown ad n c (rowB ((List.range n).map f)) hx (by rw [rowB_length]; simp) ?_ ?_ (by unfold maxLen; omega) (by omega) (Nat.le_of_lt hlz) ?_
    · intro j u hj
      rw [rowB_get] at hj
      obtain ⟨y, hy, hyu⟩ := Option.map_eq_some_iff.1 hj
      obtain ⟨b, off, he, hc⟩ := hsl.sl j y hy
      injection he with he
      subst he hyu
      by_cases hz : j = 0
      · subst hz; simpa [Addr.add] using hc
      · simpa [Addr.add, hz] using hc
    · intro u hu
      unfold rowB at hu
      obtain ⟨y, _, rfl⟩ := List.mem_map.1 hu
      rfl
    · intro v' w' h1 h2 h3
      have hne : v' ≠ .slice none 0 0 := fun e => by have := (h3.1 e).1; simp at this
      obtain ⟨g, cap, rfl, hg1, hg2⟩ := own_open h1 hne
      have e0 : 0 + n = n := Nat.zero_add _
      rw [e0] at h1 ⊢
      obtain ⟨q1, q2, q3⟩ := own_cap h1
      refine h g cap w' hg1 q1 q2 (FRow.own h1 fun i hi => ?_) (below_of_only hB0 h2 (Nat.le_of_lt hlz) (Nat.le_refl _))
      show (rowB ((List.range n).map f))[i]? = _
      rw [rowB_get]
      simp [hi]
structure Pv (w : World) (s : Option Addr) (n cap : Nat) (f : Nat → Nat) : Prop where
  rd : By w s n f
  nil : s = none → n = 0 ∧ cap = 0
  c0 : n ≤ cap
  c1 : cap ≤ maxLen
theorem Pv.below {w w' : World} {s : Option Addr} {n cap : Nat} {f : Nat → Nat} (h : Pv w s n cap f) (hb : Below w.heap.size w w') : Pv w' s n cap f := ⟨h.rd.below hb, h.nil, h.c0, h.c1⟩
theorem Pv.drewN {w : World} {s : Option Addr} {n cap : Nat} {f : Nat → Nat} (h : Pv w s n cap f) (k : Nat) : Pv (w.drewN k) s n cap f := ⟨h.rd.drewN k, h.nil, h.c0, h.c1⟩
theorem Pv.congr {w : World} {s : Option Addr} {n cap : Nat} {f f' : Nat → Nat} (h : Pv w s n cap f) (e : ∀ i, i < n → f i = f' i) : Pv w s n cap f' := ⟨h.rd.congr e, h.nil, h.c0, h.c1⟩
theorem Pv.row {w : World} {g n cap : Nat} {f : Nat → Nat} (h : BRow w g n f) (h0 : n ≤ cap) (h1 : cap ≤ maxLen) : Pv w (some ⟨g, 0, none⟩) n cap f := ⟨h.by, (fun e => by cases e), h0, h1⟩
/-- a new row comes back -/
def RowPost (W : World) (m : Nat) (f : Nat → Nat) (e : Ending) (W' : World) : Prop := ∃ g cap, e = .returned (.slice (some ⟨g, 0, none⟩) m cap) ∧ W.heap.size ≤ g ∧ m ≤ cap ∧ cap ≤ maxLen ∧ BRow W' g m f ∧ Below W.heap.size W W'
theorem RowPost.cast {W : World} {m m' : Nat} {f : Nat → Nat} {e : Ending} {W' : World} (h : m = m') (hp : RowPost W m f e W') : RowPost W m' f e W' := h ▸ hp
/-- a slice comes back that reads so -/
def PolyPost (W : World) (m : Nat) (f : Nat → Nat) (e : Ending) (W' : World) : Prop := ∃ s cap, e = .returned (.slice s m cap) ∧ Pv W' s m cap f ∧ Below W.heap.size W W'
theorem RowPost.poly {W : World} {m : Nat} {f : Nat → Nat} {e : Ending} {W' : World} (h : RowPost W m f e W') : PolyPost W m f e W' := by
  obtain ⟨g, cap, he, _, h0, h1, hr, hb⟩ := h
  exact ⟨_, cap, he, Pv.row hr h0 h1, hb⟩
theorem ret_quiet {P : Program} {f : FuncId} {args : Array Value} {w : World} {v : Value} (h : Calls P f args w fun e w' => e = .returned v ∧ ∃ n, w' = w.drewN n) : Calls P f args w (Ret w v) :=
  h.mono fun _ _ ⟨he, n, hn⟩ => ⟨he, by rw [hn]; exact below_drewN (Below.refl _ _) n⟩
theorem ret_same {P : Program} {f : FuncId} {args : Array Value} {w : World} {v : Value} (h : Calls P f args w fun e w' => e = .returned v ∧ w = w') : Calls P f args w (Ret w v) :=
  h.mono fun _ _ ⟨he, hn⟩ => ⟨he, by rw [← hn]; exact Below.refl _ _⟩
theorem beq_nat0 (x : Nat) (h : x = 0) : (((x : Nat) : Int) == 0) = true := by subst h; rfl
theorem beq_nat1 (x : Nat) (h : x ≠ 0) : (((x : Nat) : Int) == 0) = false := by simp; omega
theorem bne_nat0 (x : Nat) (h : x = 0) : (((x : Nat) : Int) != 0) = false := by subst h; rfl
theorem bne_nat1 (x : Nat) (h : x ≠ 0) : (((x : Nat) : Int) != 0) = true := by simp [bne]; omega
def OwnB (w : World) (base : Nat) (v : Value) (n : Nat) (f : Nat → Nat) : Prop := w.ownsRow base 5 1 v n (rowB ((List.range n).map f))
theorem OwnB.pv {w : World} {base n : Nat} {v : Value} {f : Nat → Nat} (h : OwnB w base v n f) : ∃ s cap, v = .slice s n cap ∧ Pv w s n cap f := by
  rcases h.2 with ⟨h1, h2⟩ | ⟨g, cap, cur, hv, hb, hg, q1, q2, q3, q4⟩
  · subst h2
    exact ⟨none, 0, h1, fun i hi => absurd hi (by omega), fun _ => ⟨rfl, rfl⟩, Nat.le_refl _, by unfold maxLen; omega⟩
  · refine ⟨some ⟨g, 0, none⟩, cap, hv, fun i hi => ⟨g, 0, rfl, ?_⟩, (fun e => by cases e), q1, q2⟩
    rw [Nat.zero_add, cell_of_block hg]
    have e : (rowB ((List.range n).map f))[i]? = some (.int .u8 (f i : Nat)) := by rw [rowB_get]; simp [hi]
    rw [← q4, List.getElem?_take, if_pos (by omega), Array.getElem?_toList] at e
    exact e
theorem OwnB.nil (w : World) (base : Nat) (f : Nat → Nat) : OwnB w base (.slice none 0 0) 0 f := World.ownsRow_nil _ _ _ _
theorem below_ownB {w0 a b : World} {base n : Nat} {v : Value} {xs : List Value} (h : a.ownsRow base 5 1 v n xs) (hb : Below base w0 a) (hB : base ≤ w0.heap.size) (hg : a.grownBy b v.ownBlock) : Below base w0 b := by
  have hsz := hb.size
  refine ⟨hg.os.trans hb.os, hg.tape.trans hb.tape, hg.output.trans hb.output, Nat.le_trans hb.size hg.size, fun i hi => ?_⟩
  rw [hg.block i (by omega) (fun e => by have := (h.lt i e.symm).1; omega)]
  exact hb.block i hi
theorem rowB_snoc (n : Nat) (f : Nat → Nat) : rowB ((List.range n).map f) ++ [.int .u8 (f n : Nat)] = rowB ((List.range (n + 1)).map f) := by
  unfold rowB
  rw [List.range_succ]
  simp
theorem wpList_snocB {ops : Array Oper} {rest : List Oper} {o : Oper} {a : Act} {w : World} {Q : Exit → Act → World → Prop} (hgd : o.guard = none) (s x : Operand)
    (ho : o.op = .call { callee := .builtin .append, args := #[s, x], argTypes := #[29, 29] })
    (w0 W : World) (v : Value) (base k : Nat) (f : Nat → Nat) (hs : a.eval s = v) (hw : w = W.alloc (.cells #[.int .u8 (f k : Nat)] 5)) (hx : a.eval x = .slice (some ⟨W.heap.size, 0, none⟩) 1 1)
    (hown : OwnB W base v k f) (hk : k ≤ 100000000) (hB : Below base w0 W) (hbase : base ≤ w0.heap.size)
    (h : ∀ v' w', OwnB w' base v' (k + 1) f → Below base w0 w' → wpList Try.prog ops Q rest (a.put o.dst v') w') :
    wpList Try.prog ops Q (o :: rest) a w := by
  subst hw
  obtain ⟨i0, hi, hz0, hz1, hz2⟩ := info_parts info8
  have hsz := hB.size
  have hown2 : (W.alloc (.cells #[.int .u8 (f k : Nat)] 5)).ownsRow base 5 1 v k (rowB ((List.range k).map f)) := World.ownsRow.alloc hown _
  have hB2 : Below base w0 (W.alloc (.cells #[.int .u8 (f k : Nat)] 5)) := hB.alloc (Nat.le_trans hbase hsz) _
  refine wpList_append_own _ hgd s x 29 ho base 5 i0 (.int .u8 0) 1 1 Try.underlying29 hi hz0 hz1 hz2 rfl (by decide) _ k _ hs hown2 ⟨W.heap.size, 0, none⟩ 1 1 [.int .u8 (f k : Nat)] hx rfl ?_ ?_ (by unfold maxLen; omega) (by omega) (Nat.le_trans hbase hB2.size) ?_
  · intro j u hj
    have h1 : j < 1 := (List.getElem?_eq_some_iff.1 hj).1
    obtain rfl : j = 0 := by omega
    rw [add_none, cell_of_block (last_block0 W (.cells #[.int .u8 (f k : Nat)] 5) _ rfl)]
    exact hj
  · intro u hu
    obtain rfl := List.mem_singleton.1 hu
    rfl
  · intro v' w' h1 h2 h3
    refine h v' w' ?_ (below_ownB hown2 hB2 hbase h2)
    unfold OwnB
    rw [← rowB_snoc]
    exact h1
theorem OwnB.below {w w' : World} {base n : Nat} {v : Value} {f : Nat → Nat} (h : OwnB w base v n f) (hb : Below w.heap.size w w') : OwnB w' base v n f := by
  refine ⟨h.1, ?_⟩
  rcases h.2 with h1 | ⟨g, cap, cur, hv, h2, hg, h3⟩
  · exact .inl h1
  · exact .inr ⟨g, cap, cur, hv, h2, (hb.block g (Array.getElem?_eq_some_iff.1 hg).1).trans hg, h3⟩
end Go.Proofs.Ytdpmhfpoendooaa
