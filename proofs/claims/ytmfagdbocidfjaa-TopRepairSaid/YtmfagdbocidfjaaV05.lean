import Derived.Test.YtmfagdbocidfjaaV01
import Derived.Laws.OwnMore
import Derived.Laws.MakeOwn
import Derived.Test.YtmfagdbocidfjaaV04
import Derived.Laws.AppendOwnNone
/- Rows of numbers that a call made itself, as functions from places to numbers: reading, writing, keeping them. Lemmas alone. -/
namespace Go.Proofs.Ytmfagdbocidfjaa
open Go.RowKit
/-- block g is a row of n numbers of kind k; the one at i is f i -/
def FRow (w : World) (g : Nat) (T : TypeId) (k : IntKind) (n : Nat) (f : Nat → Int) : Prop :=
  ∃ C : Array Value, w.heap[g]? = some (.cells C T (0, 0)) ∧ n ≤ C.size ∧ ∀ i, i < n → C[i]? = some (.int k (f i))
section
variable {w w' : World} {g : Nat} {T : TypeId} {k : IntKind} {n : Nat} {f f' : Nat → Int}
set_option maxRecDepth 100000 in
theorem FRow.cell (h : FRow w g T k n f) (i : Nat) (hi : i < n) : w.cell? ⟨g, i, none⟩ = some (.int k (f i)) := by
  obtain ⟨C, hb, hs, hc⟩ := h
  rw [cell_of_block hb]; exact hc i hi
set_option maxRecDepth 100000 in
theorem FRow.fr (h : FRow w g T k n f) (i : Nat) : w.frozen? ⟨g, i, none⟩ = false := by
  obtain ⟨C, hb, hs, hc⟩ := h
  exact frozen_of_row w g i C T hb
set_option maxRecDepth 100000 in
theorem FRow.lt (h : FRow w g T k n f) : g < w.heap.size := by
  obtain ⟨C, hb, hs, hc⟩ := h
  exact (Array.getElem?_eq_some_iff.1 hb).1
set_option maxRecDepth 100000 in
theorem FRow.congr (h : FRow w g T k n f) (e : ∀ j, j < n → f j = f' j) : FRow w g T k n f' := by
  obtain ⟨C, hb, hs, hc⟩ := h
  exact ⟨C, hb, hs, fun i hi => by rw [hc i hi, e i hi]⟩
set_option maxRecDepth 100000 in
theorem FRow.keep (h : FRow w g T k n f) (e : w'.heap[g]? = w.heap[g]?) : FRow w' g T k n f := by
  obtain ⟨C, hb, hs, hc⟩ := h
  exact ⟨C, e.trans hb, hs, hc⟩
set_option maxRecDepth 100000 in
theorem FRow.below {B : Nat} (h : FRow w g T k n f) (hb : Below B w w') (hg : g < B) : FRow w' g T k n f := h.keep (hb.block g hg)
set_option maxRecDepth 100000 in
theorem FRow.alloc (h : FRow w g T k n f) (o : Obj) : FRow (w.alloc o) g T k n f := h.keep (Below.heap_alloc w o g h.lt)
set_option maxRecDepth 100000 in
theorem FRow.drewN (h : FRow w g T k n f) (m : Nat) : FRow (w.drewN m) g T k n f := h
set_option maxRecDepth 100000 in
theorem FRow.drew (h : FRow w g T k n f) : FRow w.drew g T k n f := h
set_option maxRecDepth 100000 in
theorem FRow.set (h : FRow w g T k n f) (i : Nat) (x : Int) : FRow (w.setCell ⟨g, i, none⟩ (.int k x)) g T k n (fun j => if j = i then x else f j) := by
  obtain ⟨C, hb, hs, hc⟩ := h
  refine ⟨_, blk_set hb i _, by rw [Array.size_setIfInBounds]; exact hs, fun j hj => ?_⟩
  rw [Array.getElem?_setIfInBounds]
  by_cases e : i = j
  · subst e
    rw [if_pos rfl, if_pos (by omega)]
    simp
  · rw [if_neg e, hc j hj]
    have : ¬ j = i := fun h => e h.symm
    simp [this]
set_option maxRecDepth 100000 in
theorem FRow.other (h : FRow w g T k n f) {g' : Nat} (hne : g ≠ g') (off : Nat) (v : Value) : FRow (w.setCell ⟨g', off, none⟩ v) g T k n f := by
  obtain ⟨C, hb, hs, hc⟩ := h
  exact ⟨C, blk_set_other hb hne off v, hs, hc⟩
set_option maxRecDepth 100000 in
theorem FRow.less (h : FRow w g T k n f) (m : Nat) (hm : m ≤ n) : FRow w g T k m f := by
  obtain ⟨C, hb, hs, hc⟩ := h
  exact ⟨C, hb, by omega, fun i hi => hc i (by omega)⟩
set_option maxRecDepth 100000 in
theorem FRow.own {base cap : Nat} {l : List Value} (h : w.ownsRow base T 1 (.slice (some ⟨g, 0, none⟩) n cap) n l) (e : ∀ i, i < n → l[i]? = some (.int k (f i))) : FRow w g T k n f := by
  rcases h.2 with ⟨h1, _⟩ | ⟨g', cap', cur, hv, hb, hg, h1, h2, h3, h4⟩
  · cases h1
  · cases hv
    refine ⟨cur, hg, by omega, fun i hi => ?_⟩
    have := e i hi
    rw [← h4, List.getElem?_take, if_pos (by omega), Array.getElem?_toList] at this
    exact this
set_option maxRecDepth 100000 in
theorem own_cap {w : World} {base g n cap : Nat} {T : TypeId} {l : List Value} (h : w.ownsRow base T 1 (.slice (some ⟨g, 0, none⟩) n cap) n l) : n ≤ cap ∧ cap ≤ maxLen ∧ base ≤ g := by
  rcases h.2 with ⟨h1, _⟩ | ⟨g', cap', cur, hv, hb, hg, h1, h2, h3, h4⟩
  · cases h1
  · cases hv
    exact ⟨h1, h2, hb⟩
set_option maxRecDepth 100000 in
theorem FRow.slZ (h : FRow w g T k n f) : SlZ k w (some ⟨g, 0, none⟩) ((List.range n).map f) := by
  intro i x hx
  have hi : i < n := by have := (List.getElem?_eq_some_iff.1 hx).1; simpa using this
  refine ⟨g, 0, rfl, ?_⟩
  rw [Nat.zero_add, h.cell i hi]
  simp [hi] at hx
  rw [hx]
end
set_option maxRecDepth 100000 in
theorem frow_made (w : World) (T : TypeId) (k : IntKind) (n : Nat) : FRow (w.alloc (.cells (madeCells #[.int k 0] n) T)) w.heap.size T k n (fun _ => 0) := by
  refine ⟨_, last_block0 w _ _ rfl, ?_, fun i hi => ?_⟩
  · rw [← Array.length_toList, toList_madeCells_one]; simp
  · rw [← Array.getElem?_toList, toList_madeCells_one]; simp [hi]
set_option maxRecDepth 100000 in
/-- a make of a slice of numbers, its size known to fit -/
theorem make_row {P : Program} {S E : TypeId} {k : IntKind} {sz : Nat} (hS : P.underlying S = some (.slice E)) (hE : (P.info? E).map (fun i => (i.zero, i.size, i.bytes)) = some (some (.int k 0), 1, sz)) (n : Nat) (hn : n ≤ 100000000) (hz : sz ≤ 16) (w : World) :
    (Instr.makeSlice S (.int .i64 (n : Int)) (.int .i64 (n : Int))).run P w = .ok (.slice (some ⟨w.heap.size, 0, none⟩) n n) (w.alloc (.cells (madeCells #[.int k 0] n) E)) := by
  obtain ⟨i0, hi, hz0, hz1, hz2⟩ := info_parts hE
  have h := run_make (P := P) w S E i0 (.int k 0) hS hi hz0 .i64 .i64 (n : Int) (n : Int) (by omega) (by omega) (by rw [hz2]; have : sz * n ≤ 16 * 100000000 := Nat.mul_le_mul hz hn; omega) (by omega)
  simpa [hz1, Value.cells] using h
end Go.Proofs.Ytmfagdbocidfjaa

/- Slices of bytes as functions from places to numbers; appending one to an empty row; adding one, scaled, to a part of a row (Mix). Lemmas, and the contract of package gf's Mix at any place of a row. -/
namespace Go.Proofs.Ytmfagdbocidfjaa
open Go.RowKit
attribute [local irreducible] gexp gtbl glog rmul rinv rpow zexp
/-- a slice's first n bytes are f's -/
def By (w : World) (s : Option Addr) (n : Nat) (f : Nat → Nat) : Prop := ∀ i, i < n → ∃ b off, s = some ⟨b, off, none⟩ ∧ w.cell? ⟨b, off + i, none⟩ = some (.int .u8 (f i : Nat))
/-- block g's first n cells are f's bytes; it may be written -/
def BRow (w : World) (g n : Nat) (f : Nat → Nat) : Prop := FRow w g 5 .u8 n (fun i => (f i : Nat))
set_option maxRecDepth 100000 in
theorem By.below {w w' : World} {s : Option Addr} {n : Nat} {f : Nat → Nat} (h : By w s n f) (hb : Below w.heap.size w w') : By w' s n f := by
  intro i hi
  obtain ⟨b, off, hs, hc⟩ := h i hi
  exact ⟨b, off, hs, by rw [hb.cell (p := ⟨b, off + i, none⟩) (cell_block_lt hc)]; exact hc⟩
set_option maxRecDepth 100000 in
theorem By.less {w : World} {s : Option Addr} {n m : Nat} {f : Nat → Nat} (h : By w s n f) (hm : m ≤ n) : By w s m f := fun i hi => h i (by omega)
set_option maxRecDepth 100000 in
theorem By.congr {w : World} {s : Option Addr} {n : Nat} {f f' : Nat → Nat} (h : By w s n f) (e : ∀ i, i < n → f i = f' i) : By w s n f' := fun i hi => by rw [← e i hi]; exact h i hi
set_option maxRecDepth 100000 in
theorem By.drewN {w : World} {s : Option Addr} {n : Nat} {f : Nat → Nat} (h : By w s n f) (k : Nat) : By (w.drewN k) s n f := h
set_option maxRecDepth 100000 in
theorem By.alloc {w : World} {s : Option Addr} {n : Nat} {f : Nat → Nat} (h : By w s n f) (o : Obj) : By (w.alloc o) s n f := h.below ((Below.refl _ _).alloc (Nat.le_refl _) _)
set_option maxRecDepth 100000 in
theorem By.sl {w : World} {s : Option Addr} {n : Nat} {f : Nat → Nat} (h : By w s n f) : SlN .u8 w s ((List.range n).map f) := by
  intro i x hx
  have hi : i < n := by have := (List.getElem?_eq_some_iff.1 hx).1; simpa using this
  obtain ⟨b, off, hs, hc⟩ := h i hi
  refine ⟨b, off, hs, ?_⟩
  simp [hi] at hx
  rw [hc, hx]
set_option maxRecDepth 100000 in
theorem By.block {w : World} {s : Option Addr} {n : Nat} {f : Nat → Nat} (h : By w s n f) (h0 : 0 < n) : ∃ b off, s = some ⟨b, off, none⟩ ∧ b < w.heap.size := by
  obtain ⟨b, off, hs, hc⟩ := h 0 h0
  exact ⟨b, off, hs, cell_block_lt hc⟩
set_option maxRecDepth 100000 in
theorem BRow.by {w : World} {g n : Nat} {f : Nat → Nat} (h : BRow w g n f) : By w (some ⟨g, 0, none⟩) n f := fun i hi => ⟨g, 0, rfl, by rw [Nat.zero_add]; exact FRow.cell h i hi⟩
set_option maxRecDepth 100000 in
theorem BRow.at {w : World} {g n : Nat} {f : Nat → Nat} (h : BRow w g n f) (o m : Nat) (hm : o + m ≤ n) : By w (some ⟨g, o, none⟩) m (fun i => f (o + i)) := fun i hi => ⟨g, o, rfl, FRow.cell h (o + i) (by omega)⟩
set_option maxRecDepth 100000 in
theorem BRow.congr {w : World} {g n : Nat} {f f' : Nat → Nat} (h : BRow w g n f) (e : ∀ i, i < n → f i = f' i) : BRow w g n f' := FRow.congr h fun i hi => by rw [e i hi]
set_option maxRecDepth 100000 in
theorem BRow.set {w : World} {g n : Nat} {f : Nat → Nat} (h : BRow w g n f) (i x : Nat) : BRow (w.setCell ⟨g, i, none⟩ (.int .u8 (x : Nat))) g n (fun j => if j = i then x else f j) :=
  FRow.congr (FRow.set h i x) fun j _ => by dsimp only; split <;> rfl
set_option maxRecDepth 100000 in
theorem BRow.less {w : World} {g n m : Nat} {f : Nat → Nat} (h : BRow w g n f) (hm : m ≤ n) : BRow w g m f := FRow.less h m hm
set_option maxRecDepth 100000 in
theorem BRow.lt {w : World} {g n : Nat} {f : Nat → Nat} (h : BRow w g n f) : g < w.heap.size := FRow.lt h
set_option maxRecDepth 100000 in
theorem BRow.below {B : Nat} {w w' : World} {g n : Nat} {f : Nat → Nat} (h : BRow w g n f) (hb : Below B w w') (hg : g < B) : BRow w' g n f := FRow.below h hb hg
set_option maxRecDepth 100000 in
theorem brow_made (w : World) (n : Nat) : BRow (w.alloc (.cells (madeCells #[.int .u8 0] n) 5)) w.heap.size n (fun _ => 0) := frow_made w _ _ n
set_option maxRecDepth 100000 in
/-- append([]byte{}, x...): a new row -/
theorem wpList_appB {ops : Array Oper} {rest : List Oper} {o : Oper} {a : Act} {w : World} {Q : Exit → Act → World → Prop} (hgd : o.guard = none) (s x : Operand)
    (ho : o.op = .call { callee := .builtin .append, args := #[s, x], argTypes := #[71, 71] })
    (W : World) (hs : a.eval s = .slice (some ⟨W.heap.size, 0, none⟩) 0 0) (hw : w = W.alloc (.cells #[] 5))
    (A : Option Addr) (c n : Nat) (f : Nat → Nat) (hx : a.eval x = .slice A n c) (hsl : By W A n f) (hnone : A = none → n = 0 ∧ c = 0) (hn : n ≤ 100000000)
    (h : ∀ g cap w', W.heap.size ≤ g → n ≤ cap → cap ≤ maxLen → BRow w' g n f → Below W.heap.size W w' → wpList Try.prog ops Q rest (a.put o.dst (.slice (some ⟨g, 0, none⟩) n cap)) w') :
    wpList Try.prog ops Q (o :: rest) a w := by
  subst hw
  obtain ⟨i0, hi, hz0, hz1, hz2⟩ := info_parts info8
  have hown := World.ownsRow_lit (base := W.heap.size) (e := 5) (size := 1) W #[] 0 (Nat.le_refl _) (by unfold maxLen; omega) rfl
  have hB0 : Below W.heap.size W (W.alloc (.cells #[] 5)) := (Below.refl _ _).alloc (Nat.le_refl _) _
  have hlz : W.heap.size < (W.alloc (.cells #[] 5)).heap.size := by show _ < (W.heap.push _).size; rw [Array.size_push]; omega
  have hsl := hsl.alloc (.cells #[] 5)
  cases A with
  | none =>
    obtain ⟨rfl, rfl⟩ := hnone rfl
    refine wpList_append_own_none hgd s x 71 ho W.heap.size 5 i0 1 Try.underlying71 hi _ 0 _ hs hown hx ?_
    exact h W.heap.size 0 _ (Nat.le_refl _) (Nat.le_refl _) (by unfold maxLen; omega) ⟨_, last_block0 W _ _ rfl, by simp, fun i hi => absurd hi (by omega)⟩ hB0
  | some ad =>
    refine wpList_append_own _ hgd s x 71 ho W.heap.size 5 i0 (.int .u8 0) 1 1 Try.underlying71 hi hz0 hz1 hz2 rfl (by decide) _ 0 _ hs hown ad n c (rowB ((List.range n).map f)) hx (by rw [rowB_length]; simp) ?_ ?_ (by unfold maxLen; omega) (by omega) (Nat.le_of_lt hlz) ?_
    · intro j u hj
      rw [rowB_get] at hj
      obtain ⟨y, hy, hyu⟩ := Option.map_eq_some_iff.1 hj
      obtain ⟨b, off, he, hc⟩ := hsl.sl j y hy
      injection he with he
      subst he hyu
      by_cases hz : j = 0
      · subst hz; simpa [Addr.add] using hc
      · simpa [Addr.add, hz] using hc
    · intro u hu
      unfold rowB at hu
      obtain ⟨y, _, rfl⟩ := List.mem_map.1 hu
      rfl
    · intro v' w' h1 h2 h3
      have hne : v' ≠ .slice none 0 0 := fun e => by have := (h3.1 e).1; simp at this
      obtain ⟨g, cap, rfl, hg1, hg2⟩ := own_open h1 hne
      have e0 : 0 + n = n := Nat.zero_add _
      rw [e0] at h1 ⊢
      obtain ⟨q1, q2, q3⟩ := own_cap h1
      refine h g cap w' hg1 q1 q2 (FRow.own h1 fun i hi => ?_) (below_of_only hB0 h2 (Nat.le_of_lt hlz) (Nat.le_refl _))
      show (rowB ((List.range n).map f))[i]? = _
      rw [rowB_get]
      simp [hi]
/-- Mix, at any place of a row -/
def MixoPost (W : World) (g N : Nat) (f : Nat → Nat) (e : Ending) (W' : World) : Prop := e = .returned (.tuple #[]) ∧ BRow W' g N f ∧ W.grownBy W' (some g)
def mixF (f b : Nat → Nat) (c o K j : Nat) : Nat := if o ≤ j ∧ j < o + K then f j ^^^ rmul c (b (j - o)) else f j
set_option maxRecDepth 100000 in
theorem mixF_zero (f b : Nat → Nat) (c o j : Nat) : mixF f b c o 0 j = f j := by unfold mixF; rw [if_neg (by omega)]
set_option maxRecDepth 100000 in
theorem mixF_next (f b : Nat → Nat) (c o k j : Nat) : (if j = o + k then f (o + k) ^^^ rmul c (b k) else mixF f b c o k j) = mixF f b c o (k + 1) j := by
  unfold mixF
  by_cases e : j = o + k
  · subst e; rw [if_pos rfl, if_pos (by omega), show o + k - o = k by omega]
  · rw [if_neg e]
    by_cases h : o ≤ j ∧ j < o + k
    · rw [if_pos h, if_pos (by omega)]
    · rw [if_neg h, if_neg (by omega)]
set_option maxRecDepth 100000 in
theorem mixF_old (f b : Nat → Nat) (c o k j : Nat) (h : o + k ≤ j ∨ j < o) : mixF f b c o k j = f j := by unfold mixF; rw [if_neg (by omega)]
attribute [local irreducible] mixF
set_option maxRecDepth 100000 in
set_option maxHeartbeats 2000000 in
theorem gf_mixo (p g N o m cap c : Nat) (t : Option Addr) (n ct : Nat) (f b : Nat → Nat) (w : World) (hg : IsGf w p) (hne : p ≠ g) (hr : BRow w g N f) (ho : o + m ≤ N) (hf : ∀ i, f i < 256) (hb : ∀ i, b i < 256)
    (ht : ∀ i, i < n → i < m → ∃ bb off, t = some ⟨bb, off, none⟩ ∧ w.cell? ⟨bb, off + i, none⟩ = some (.int .u8 (b i : Nat)) ∧ (bb = g → (off + i < o ∨ o + m ≤ off + i) ∧ off + i < N)) (hc : c < 256) (hN : N ≤ 1000000000) (hn : n ≤ 1000000000) :
    Calls Try.prog 124 #[.pointer (some ⟨p, 0, none⟩), .slice (some ⟨g, o, none⟩) m cap, .int .u8 c, .slice t n ct] w (MixoPost w g N (mixF f b c o (min m n))) := by
  have hth := Lib.hid ht
  have hfh := Lib.hid hf
  have hbh := Lib.hid hb
  have hgh := hide hg
  have hrh := hide hr
  have hpw := hg.lt
  clear ht hf hb hg hr
  have hK : (m ≤ n ∧ min m n = m) ∨ (n < m ∧ min m n = n) := by omega
  rcases hK with ⟨hmn, hK⟩ | ⟨hmn, hK⟩
  all_goals
    have hKh := Lib.hid hK
    have hkm : min m n ≤ m := by omega
    have hkn : min m n ≤ n := by omega
    first
      | (have hex := decide_eq_false (show ¬ min m n < m by omega))
      | (have hex := decide_eq_false (show ¬ min m n < n by omega))
    clear hK
    generalize min m n = K at *
    have hexh := Lib.hid hex
    clear hex
    go_enter Try.func124, Try.ntmps124
    go_wp2_with fail
    go_loopw [14] (fun i wr => ∃ k : Nat, k ≤ K ∧ i = .int .i64 k ∧ BRow wr g N (mixF f b c o k) ∧ w.grownBy wr (some g)) (fun i _ => K - (intOf i).toNat)
    case atStart => exact ⟨0, by omega, rfl, hrh.out.congr (fun i _ => (mixF_zero f b c o i).symm), only_refl _ _⟩
    case round =>
      obtain ⟨k, hk, rfl, hr, hgr⟩ := hrel
      by_cases hlt : k < K
      · obtain ⟨b2, o2, rfl, hc2, hd2⟩ := hth.out k (by omega) (by omega)
        have hc2' : wr.cell? ⟨b2, o2 + k, none⟩ = some (.int .u8 (b k : Nat)) := by
          by_cases e : b2 = g
          · subst e
            obtain ⟨hs, hin⟩ := hd2 rfl
            rw [FRow.cell hr (o2 + k) hin, ← hc2, FRow.cell hrh.out (o2 + k) hin, mixF_old _ _ _ _ _ _ (by omega)]
          · exact hgr.cell hc2 (by intro e2; injection e2 with e2; exact e e2)
        have hx2 := hfh.out (o + k)
        have hy2 := hbh.out k
        have he := Lib.hid (fun j => mixF_next f b c o k j)
        have hc1 : wr.cell? ⟨g, o + k, none⟩ = some (.int .u8 (f (o + k) : Nat)) := by rw [FRow.cell hr (o + k) (by omega), mixF_old _ _ _ _ _ _ (by omega)]
        have hf1 := FRow.fr hr (o + k)
        have hu := hide (u8_xor_nat (f (o + k)) (rmul c (b k)) hx2 (rmul_lt c (b k)))
        have hmu := Lib.hid (fun X hX => gf_mul p c (b k) X hX hc hy2)
        have i1 : (k : Int) < (m : Int) := by omega
        have i2 : (k : Int) < (n : Int) := by omega
        have hg2 : IsGf wr p := (hgr.block p hpw (by intro e; injection e with e; exact hne e)).trans hgh.out
        have hg2h := hide hg2
        have hset := Lib.hid (fun x : Nat => hr.set (o + k) x)
        clear hg2 hc2 hr hd2
        generalize f (o + k) = x at *
        generalize b k = y at *
        generalize rmul c y = z at *
        go_wp2_with fail
        go_region_with (go_at_call 130; refine (hmu.out _ (IsGf.drew hg2h.out)).mono ?_; rintro e w' ⟨rfl, n, rfl⟩)
        all_goals
          go_wp2_with fail
          rw [hu.out]
          go_roundw
          case rel => exact ⟨k + 1, by omega, by go_num, (hset.out _).congr (fun j _ => he.out j), only_set (only_drewN hgr _) (o + k) _⟩
          case measure => simp [intOf]; omega
      · obtain rfl : k = K := by omega
        have hrh2 := hide hr
        have hd := hexh.out
        clear hr
        go_wp2_with fail
        go_end0
        exact ⟨rfl, hrh2.out, hgr⟩
end Go.Proofs.Ytmfagdbocidfjaa

/- Rows of numbers of any kind that a call made itself and appends to one at a time. Lemmas alone. -/
namespace Go.Proofs.Ytmfagdbocidfjaa
open Go.RowKit
/-- numbers as cells -/
def rowZ (k : IntKind) (n : Nat) (f : Nat → Int) : List Value := (List.range n).map fun i => .int k (f i)
set_option maxRecDepth 100000 in
theorem rowZ_get (k : IntKind) (n : Nat) (f : Nat → Int) (i : Nat) (hi : i < n) : (rowZ k n f)[i]? = some (.int k (f i)) := by simp [rowZ, hi]
set_option maxRecDepth 100000 in
theorem rowZ_length (k : IntKind) (n : Nat) (f : Nat → Int) : (rowZ k n f).length = n := by simp [rowZ]
set_option maxRecDepth 100000 in
theorem rowZ_snoc (k : IntKind) (n : Nat) (f : Nat → Int) : rowZ k n f ++ [.int k (f n)] = rowZ k (n + 1) f := by
  unfold rowZ
  rw [List.range_succ]
  simp
def OwnZ (w : World) (base : Nat) (T : TypeId) (k : IntKind) (v : Value) (n : Nat) (f : Nat → Int) : Prop := w.ownsRow base T 1 v n (rowZ k n f)
set_option maxRecDepth 100000 in
theorem OwnZ.nil (w : World) (base : Nat) (T : TypeId) (k : IntKind) (f : Nat → Int) : OwnZ w base T k (.slice none 0 0) 0 f := World.ownsRow_nil _ _ _ _
set_option maxRecDepth 100000 in
theorem OwnZ.lt {w : World} {base n : Nat} {T : TypeId} {k : IntKind} {v : Value} {f : Nat → Int} (h : OwnZ w base T k v n f) : ∀ g, v.ownBlock = some g → base ≤ g ∧ g < w.heap.size := World.ownsRow.lt h
set_option maxRecDepth 100000 in
theorem OwnZ.kept {w w' : World} {base n : Nat} {T : TypeId} {k : IntKind} {v : Value} {f : Nat → Int} {row : Option Nat} (h : OwnZ w base T k v n f) (hg : w.grownBy w' row) (hne : ∀ b, row = some b → b < base) : OwnZ w' base T k v n f := by
  refine World.ownsRow.kept h hg ?_
  rcases hv : v.ownBlock with _ | b
  · exact .inl rfl
  · refine .inr (fun e => ?_)
    have h1 := h.lt b hv
    have h2 := hne b e.symm
    omega
set_option maxRecDepth 100000 in
theorem OwnZ.below {w w' : World} {base n : Nat} {T : TypeId} {k : IntKind} {v : Value} {f : Nat → Int} (h : OwnZ w base T k v n f) (hb : Below w.heap.size w w') : OwnZ w' base T k v n f := by
  refine ⟨h.1, ?_⟩
  rcases h.2 with h1 | ⟨g, cap, cur, hv, h2, hg, h3⟩
  · exact .inl h1
  · exact .inr ⟨g, cap, cur, hv, h2, (hb.block g (Array.getElem?_eq_some_iff.1 hg).1).trans hg, h3⟩
set_option maxRecDepth 100000 in
theorem OwnZ.congr {w : World} {base n : Nat} {T : TypeId} {k : IntKind} {v : Value} {f f' : Nat → Int} (h : OwnZ w base T k v n f) (e : ∀ j, j < n → f j = f' j) : OwnZ w base T k v n f' := by
  unfold OwnZ rowZ at *
  rw [show ((List.range n).map fun i => Value.int k (f' i)) = (List.range n).map fun i => Value.int k (f i) from List.map_congr_left fun j hj => by rw [e j (by simpa using hj)]]
  exact h
/-- a slice's first n numbers are f's -/
def ZAt (w : World) (k : IntKind) (s : Option Addr) (n : Nat) (f : Nat → Int) : Prop := ∀ i, i < n → ∃ b off, s = some ⟨b, off, none⟩ ∧ w.cell? ⟨b, off + i, none⟩ = some (.int k (f i))
set_option maxRecDepth 100000 in
theorem ZAt.below {w w' : World} {k : IntKind} {s : Option Addr} {n : Nat} {f : Nat → Int} (h : ZAt w k s n f) (hb : Below w.heap.size w w') : ZAt w' k s n f := by
  intro i hi
  obtain ⟨b, off, hs, hc⟩ := h i hi
  exact ⟨b, off, hs, by rw [hb.cell (p := ⟨b, off + i, none⟩) (cell_block_lt hc)]; exact hc⟩
set_option maxRecDepth 100000 in
theorem OwnZ.open {w : World} {base n : Nat} {T : TypeId} {k : IntKind} {v : Value} {f : Nat → Int} (h : OwnZ w base T k v n f) : ∃ s cap, v = .slice s n cap ∧ ZAt w k s n f ∧ n ≤ cap ∧ cap ≤ maxLen ∧ (s = none → n = 0 ∧ cap = 0) := by
  rcases h.2 with ⟨h1, h2⟩ | ⟨g, cap, cur, hv, hb, hg, q1, q2, q3, q4⟩
  · subst h2
    exact ⟨none, 0, h1, fun i hi => absurd hi (by omega), Nat.le_refl _, by unfold maxLen; omega, fun _ => ⟨rfl, rfl⟩⟩
  · refine ⟨some ⟨g, 0, none⟩, cap, hv, fun i hi => ⟨g, 0, rfl, ?_⟩, q1, q2, (fun e => by cases e)⟩
    rw [Nat.zero_add, cell_of_block hg]
    have e := rowZ_get k n f i hi
    rw [← q4, List.getElem?_take, if_pos (by omega), Array.getElem?_toList] at e
    exact e
set_option maxRecDepth 100000 in
theorem below_grown {B : Nat} {W a b : World} {row : Option Nat} (h : Below B W a) (hB : B ≤ W.heap.size) (hg : a.grownBy b row) (hp : ∀ p, row = some p → B ≤ p) : Below B W b :=
  ⟨hg.os.trans h.os, hg.tape.trans h.tape, hg.output.trans h.output, Nat.le_trans h.size hg.size, fun i hi => (hg.block i (by have := h.size; omega) (fun e => by have := hp i e.symm; omega)).trans (h.block i hi)⟩
set_option maxRecDepth 100000 in
/-- append(s, x), one number -/
theorem wpList_snocZ {P : Program} {S T : TypeId} {k : IntKind} {bytes : Nat} (hS : P.underlying S = some (.slice T)) (hI : (P.info? T).map (fun i => (i.zero, i.size, i.bytes)) = some (some (.int k 0), 1, bytes)) (hby : bytes ≤ 8)
    {ops : Array Oper} {rest : List Oper} {o : Oper} {a : Act} {w : World} {Q : Exit → Act → World → Prop} (hgd : o.guard = none) (s x : Operand)
    (ho : o.op = .call { callee := .builtin .append, args := #[s, x], argTypes := #[S, S] })
    (W : World) (v : Value) (base n : Nat) (f : Nat → Int) (hs : a.eval s = v) (hw : w = W.alloc (.cells #[.int k (f n)] T)) (hx : a.eval x = .slice (some ⟨W.heap.size, 0, none⟩) 1 1)
    (hown : OwnZ W base T k v n f) (hn : n ≤ 100000000) (hbase : base ≤ W.heap.size)
    (h : ∀ v' w', OwnZ w' base T k v' (n + 1) f → W.grownBy w' v.ownBlock → wpList P ops Q rest (a.put o.dst v') w') :
    wpList P ops Q (o :: rest) a w := by
  subst hw
  obtain ⟨i0, hi, hz0, hz1, hz2⟩ := info_parts hI
  have hown2 : (W.alloc (.cells #[.int k (f n)] T)).ownsRow base T 1 v n (rowZ k n f) := World.ownsRow.alloc hown _
  refine wpList_append_own _ hgd s x S ho base T i0 (.int k 0) 1 bytes hS hi hz0 hz1 hz2 rfl (by decide) _ n _ hs hown2 ⟨W.heap.size, 0, none⟩ 1 1 [.int k (f n)] hx rfl ?_ ?_ (by unfold maxLen; omega) (by
    have := Nat.mul_le_mul (show n + 1 ≤ 100000001 by omega) hby
    omega) (by show base ≤ (W.heap.push _).size; rw [Array.size_push]; omega) ?_
  · intro j u hj
    have h1 : j < 1 := (List.getElem?_eq_some_iff.1 hj).1
    obtain rfl : j = 0 := by omega
    rw [add_none, cell_of_block (last_block0 W (.cells #[.int k (f n)] T) _ rfl)]
    exact hj
  · intro u hu
    obtain rfl := List.mem_singleton.1 hu
    rfl
  · intro v' w' h1 h2 h3
    refine h v' w' ?_ ?_
    · unfold OwnZ
      rw [← rowZ_snoc]
      exact h1
    · have hsz : (W.alloc (.cells #[.int k (f n)] T)).heap.size = W.heap.size + 1 := by show (W.heap.push _).size = _; rw [Array.size_push]
      refine ⟨h2.os, h2.tape, h2.output, by have := h2.size; omega, fun i hi hne => (h2.block i (by omega) hne).trans (Below.heap_alloc W _ i hi)⟩
set_option maxRecDepth 100000 in
/-- the same, the number spelled otherwise -/
theorem wpList_snocX {P : Program} {S T : TypeId} {k : IntKind} {bytes : Nat} (hS : P.underlying S = some (.slice T)) (hI : (P.info? T).map (fun i => (i.zero, i.size, i.bytes)) = some (some (.int k 0), 1, bytes)) (hby : bytes ≤ 8)
    {ops : Array Oper} {rest : List Oper} {o : Oper} {a : Act} {w : World} {Q : Exit → Act → World → Prop} (hgd : o.guard = none) (s x : Operand)
    (ho : o.op = .call { callee := .builtin .append, args := #[s, x], argTypes := #[S, S] })
    (W : World) (v : Value) (base n : Nat) (f : Nat → Int) (u : Int) (hu : u = f n) (hs : a.eval s = v) (hw : w = W.alloc (.cells #[.int k u] T)) (hx : a.eval x = .slice (some ⟨W.heap.size, 0, none⟩) 1 1)
    (hown : OwnZ W base T k v n f) (hn : n ≤ 100000000) (hbase : base ≤ W.heap.size)
    (h : ∀ v' w', OwnZ w' base T k v' (n + 1) f → W.grownBy w' v.ownBlock → wpList P ops Q rest (a.put o.dst v') w') :
    wpList P ops Q (o :: rest) a w := by
  subst hu
  exact wpList_snocZ hS hI hby hgd s x ho W v base n f hs hw hx hown hn hbase h
set_option maxRecDepth 100000 in
/-- the same as a run of the operation -/
theorem run_snocZ {P : Program} {S T : TypeId} {k : IntKind} {bytes : Nat} (hS : P.underlying S = some (.slice T)) (hI : (P.info? T).map (fun i => (i.zero, i.size, i.bytes)) = some (some (.int k 0), 1, bytes)) (hby : bytes ≤ 8)
    (W : World) (v : Value) (base n : Nat) (f : Nat → Int) (x : Int) (hx : x = f n) (hown : OwnZ W base T k v n f) (hn : n ≤ 100000000) (hbase : base ≤ W.heap.size) (ty : TypeId) :
    ∃ v' w', (Builtin.append_ #[S, S] ty #[v, .slice (some ⟨W.heap.size, 0, none⟩) 1 1]).run P (W.alloc (.cells #[.int k x] T)) = .ok v' w' ∧ OwnZ w' base T k v' (n + 1) f ∧ W.grownBy w' v.ownBlock := by
  subst hx
  obtain ⟨i0, hi, hz0, hz1, hz2⟩ := info_parts hI
  have hown2 : (W.alloc (.cells #[.int k (f n)] T)).ownsRow base T 1 v n (rowZ k n f) := World.ownsRow.alloc hown _
  have hsz : (W.alloc (.cells #[.int k (f n)] T)).heap.size = W.heap.size + 1 := by show (W.heap.push _).size = _; rw [Array.size_push]
  obtain ⟨v', w', hr, h1, h2, _⟩ := run_append_own (P := P) (W.alloc (.cells #[.int k (f n)] T)) base S ty T i0 (.int k 0) 1 bytes hS hi hz0 hz1 hz2 rfl (by decide) v n _ hown2 ⟨W.heap.size, 0, none⟩ 1 1 [.int k (f n)] rfl (by
    intro j u hj
    have h1 : j < 1 := (List.getElem?_eq_some_iff.1 hj).1
    obtain rfl : j = 0 := by omega
    rw [add_none, cell_of_block (last_block0 W (.cells #[.int k (f n)] T) _ rfl)]
    exact hj) (by
    intro u hu
    obtain rfl := List.mem_singleton.1 hu
    rfl) (by unfold maxLen; omega) (by
    have := Nat.mul_le_mul (show n + 1 ≤ 100000001 by omega) hby
    omega) (by omega)
  refine ⟨v', w', hr, ?_, h2.os, h2.tape, h2.output, by have := h2.size; omega, fun i hi hne => (h2.block i (by omega) hne).trans (Below.heap_alloc W _ i hi)⟩
  unfold OwnZ
  rw [← rowZ_snoc]
  exact h1
end Go.Proofs.Ytmfagdbocidfjaa
