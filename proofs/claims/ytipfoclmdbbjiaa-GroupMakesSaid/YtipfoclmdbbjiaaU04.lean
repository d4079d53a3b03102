import Derived.Test.YtipfoclmdbbjiaaU03
import Derived.Laws.AppendOwnNone
import Derived.Test.YtipfoclmdbbjiaaU01
import Derived.Deep.QuietTactic
import Derived.Deep.RegionHeld3
/- Slices of bytes as functions from places to numbers; appending one to an empty row; adding one, scaled, to a part of a row (Mix). Lemmas, and the contract of package gf's Mix at any place of a row. -/
namespace Go.Proofs.Ytipfoclmdbbjiaa
open Go.RowKit
attribute [local irreducible] gexp gtbl glog rmul rinv rpow zexp
/-- a slice's first n bytes are f's -/
def By (w : World) (s : Option Addr) (n : Nat) (f : Nat → Nat) : Prop := ∀ i, i < n → ∃ b off, s = some ⟨b, off, none⟩ ∧ w.cell? ⟨b, off + i, none⟩ = some (.int .u8 (f i : Nat))
/-- block g's first n cells are f's bytes; it may be written -/
def BRow (w : World) (g n : Nat) (f : Nat → Nat) : Prop := FRow w g 5 .u8 n (fun i => (f i : Nat))
set_option maxRecDepth 100000 in
theorem By.below {w w' : World} {s : Option Addr} {n : Nat} {f : Nat → Nat} (h : By w s n f) (hb : Below w.heap.size w w') : By w' s n f := by
  intro i hi
  obtain ⟨b, off, hs, hc⟩ := h i hi
  exact ⟨b, off, hs, by rw [hb.cell (p := ⟨b, off + i, none⟩) (cell_block_lt hc)]; exact hc⟩
set_option maxRecDepth 100000 in
theorem By.less {w : World} {s : Option Addr} {n m : Nat} {f : Nat → Nat} (h : By w s n f) (hm : m ≤ n) : By w s m f := fun i hi => h i (by omega)
set_option maxRecDepth 100000 in
theorem By.congr {w : World} {s : Option Addr} {n : Nat} {f f' : Nat → Nat} (h : By w s n f) (e : ∀ i, i < n → f i = f' i) : By w s n f' := fun i hi => by rw [← e i hi]; exact h i hi
set_option maxRecDepth 100000 in
theorem By.drewN {w : World} {s : Option Addr} {n : Nat} {f : Nat → Nat} (h : By w s n f) (k : Nat) : By (w.drewN k) s n f := h
set_option maxRecDepth 100000 in
theorem By.alloc {w : World} {s : Option Addr} {n : Nat} {f : Nat → Nat} (h : By w s n f) (o : Obj) : By (w.alloc o) s n f := h.below ((Below.refl _ _).alloc (Nat.le_refl _) _)
set_option maxRecDepth 100000 in
theorem By.sl {w : World} {s : Option Addr} {n : Nat} {f : Nat → Nat} (h : By w s n f) : SlN .u8 w s ((List.range n).map f) := by
  intro i x hx
  have hi : i < n := by have := (List.getElem?_eq_some_iff.1 hx).1; simpa using this
  obtain ⟨b, off, hs, hc⟩ := h i hi
  refine ⟨b, off, hs, ?_⟩
  simp [hi] at hx
  rw [hc, hx]
set_option maxRecDepth 100000 in
theorem By.block {w : World} {s : Option Addr} {n : Nat} {f : Nat → Nat} (h : By w s n f) (h0 : 0 < n) : ∃ b off, s = some ⟨b, off, none⟩ ∧ b < w.heap.size := by
  obtain ⟨b, off, hs, hc⟩ := h 0 h0
  exact ⟨b, off, hs, cell_block_lt hc⟩
set_option maxRecDepth 100000 in
theorem BRow.by {w : World} {g n : Nat} {f : Nat → Nat} (h : BRow w g n f) : By w (some ⟨g, 0, none⟩) n f := fun i hi => ⟨g, 0, rfl, by rw [Nat.zero_add]; exact FRow.cell h i hi⟩
set_option maxRecDepth 100000 in
theorem BRow.at {w : World} {g n : Nat} {f : Nat → Nat} (h : BRow w g n f) (o m : Nat) (hm : o + m ≤ n) : By w (some ⟨g, o, none⟩) m (fun i => f (o + i)) := fun i hi => ⟨g, o, rfl, FRow.cell h (o + i) (by omega)⟩
set_option maxRecDepth 100000 in
theorem BRow.congr {w : World} {g n : Nat} {f f' : Nat → Nat} (h : BRow w g n f) (e : ∀ i, i < n → f i = f' i) : BRow w g n f' := FRow.congr h fun i hi => by rw [e i hi]
set_option maxRecDepth 100000 in
theorem BRow.set {w : World} {g n : Nat} {f : Nat → Nat} (h : BRow w g n f) (i x : Nat) : BRow (w.setCell ⟨g, i, none⟩ (.int .u8 (x : Nat))) g n (fun j => if j = i then x else f j) :=
  FRow.congr (FRow.set h i x) fun j _ => by dsimp only; split <;> rfl
set_option maxRecDepth 100000 in
theorem BRow.less {w : World} {g n m : Nat} {f : Nat → Nat} (h : BRow w g n f) (hm : m ≤ n) : BRow w g m f := FRow.less h m hm
set_option maxRecDepth 100000 in
theorem BRow.lt {w : World} {g n : Nat} {f : Nat → Nat} (h : BRow w g n f) : g < w.heap.size := FRow.lt h
set_option maxRecDepth 100000 in
theorem BRow.below {B : Nat} {w w' : World} {g n : Nat} {f : Nat → Nat} (h : BRow w g n f) (hb : Below B w w') (hg : g < B) : BRow w' g n f := FRow.below h hb hg
set_option maxRecDepth 100000 in
theorem brow_made (w : World) (n : Nat) : BRow (w.alloc (.cells (madeCells #[.int .u8 0] n) 5)) w.heap.size n (fun _ => 0) := frow_made w _ _ n
set_option maxRecDepth 100000 in
/-- append([]byte{}, x...): a new row -/
theorem wpList_appB {ops : Array Oper} {rest : List Oper} {o : Oper} {a : Act} {w : World} {Q : Exit → Act → World → Prop} (hgd : o.guard = none) (s x : Operand)
    (ho : o.op = .call { callee := .builtin .append, args := #[s, x], argTypes := #[58, 58] })
    (W : World) (hs : a.eval s = .slice (some ⟨W.heap.size, 0, none⟩) 0 0) (hw : w = W.alloc (.cells #[] 5))
    (A : Option Addr) (c n : Nat) (f : Nat → Nat) (hx : a.eval x = .slice A n c) (hsl : By W A n f) (hnone : A = none → n = 0 ∧ c = 0) (hn : n ≤ 100000000)
    (h : ∀ g cap w', W.heap.size ≤ g → n ≤ cap → cap ≤ maxLen → BRow w' g n f → Below W.heap.size W w' → wpList Try.prog ops Q rest (a.put o.dst (.slice (some ⟨g, 0, none⟩) n cap)) w') :
    wpList Try.prog ops Q (o :: rest) a w := by
  subst hw
  obtain ⟨i0, hi, hz0, hz1, hz2⟩ := info_parts info8
  have hown := World.ownsRow_lit (base := W.heap.size) (e := 5) (size := 1) W #[] 0 (Nat.le_refl _) (by unfold maxLen; omega) rfl
  have hB0 : Below W.heap.size W (W.alloc (.cells #[] 5)) := (Below.refl _ _).alloc (Nat.le_refl _) _
  have hlz : W.heap.size < (W.alloc (.cells #[] 5)).heap.size := by show _ < (W.heap.push _).size; rw [Array.size_push]; omega
  have hsl := hsl.alloc (.cells #[] 5)
  cases A with
  | none =>
    obtain ⟨rfl, rfl⟩ := hnone rfl
    refine wpList_append_own_none hgd s x 58 ho W.heap.size 5 i0 1 Try.underlying58 hi _ 0 _ hs hown hx ?_
    exact h W.heap.size 0 _ (Nat.le_refl _) (Nat.le_refl _) (by unfold maxLen; omega) ⟨_, last_block0 W _ _ rfl, by simp, fun i hi => absurd hi (by omega)⟩ hB0
  | some ad =>
    refine wpList_append_own _ hgd s x 58 ho W.heap.size 5 i0 (.int .u8 0) 1 1 Try.underlying58 hi hz0 hz1 hz2 rfl (by decide) _ 0 _ hs hown ad n c (rowB ((List.range n).map f)) hx (by rw [rowB_length]; simp) ?_ ?_ (by unfold maxLen; omega) (by omega) (Nat.le_of_lt hlz) ?_
    · intro j u hj
      rw [rowB_get] at hj
      obtain ⟨y, hy, hyu⟩ := Option.map_eq_some_iff.1 hj
      obtain ⟨b, off, he, hc⟩ := hsl.sl j y hy
      injection he with he
      subst he hyu
      by_cases hz : j = 0
      · subst hz; simpa [Addr.add] using hc
      · simpa [Addr.add, hz] using hc
    · intro u hu
      unfold rowB at hu
      obtain ⟨y, _, rfl⟩ := List.mem_map.1 hu
      rfl
    · intro v' w' h1 h2 h3
      have hne : v' ≠ .slice none 0 0 := fun e => by have := (h3.1 e).1; simp at this
      obtain ⟨g, cap, rfl, hg1, hg2⟩ := own_open h1 hne
      have e0 : 0 + n = n := Nat.zero_add _
      rw [e0] at h1 ⊢
      obtain ⟨q1, q2, q3⟩ := own_cap h1
      refine h g cap w' hg1 q1 q2 (FRow.own h1 fun i hi => ?_) (below_of_only hB0 h2 (Nat.le_of_lt hlz) (Nat.le_refl _))
      show (rowB ((List.range n).map f))[i]? = _
      rw [rowB_get]
      simp [hi]
/-- Mix, at any place of a row -/
def MixoPost (W : World) (g N : Nat) (f : Nat → Nat) (e : Ending) (W' : World) : Prop := e = .returned (.tuple #[]) ∧ BRow W' g N f ∧ W.grownBy W' (some g)
def mixF (f b : Nat → Nat) (c o K j : Nat) : Nat := if o ≤ j ∧ j < o + K then f j ^^^ rmul c (b (j - o)) else f j
set_option maxRecDepth 100000 in
theorem mixF_zero (f b : Nat → Nat) (c o j : Nat) : mixF f b c o 0 j = f j := by unfold mixF; rw [if_neg (by omega)]
set_option maxRecDepth 100000 in
theorem mixF_next (f b : Nat → Nat) (c o k j : Nat) : (if j = o + k then f (o + k) ^^^ rmul c (b k) else mixF f b c o k j) = mixF f b c o (k + 1) j := by
  unfold mixF
  by_cases e : j = o + k
  · subst e; rw [if_pos rfl, if_pos (by omega), show o + k - o = k by omega]
  · rw [if_neg e]
    by_cases h : o ≤ j ∧ j < o + k
    · rw [if_pos h, if_pos (by omega)]
    · rw [if_neg h, if_neg (by omega)]
set_option maxRecDepth 100000 in
theorem mixF_old (f b : Nat → Nat) (c o k j : Nat) (h : o + k ≤ j ∨ j < o) : mixF f b c o k j = f j := by unfold mixF; rw [if_neg (by omega)]
attribute [local irreducible] mixF
set_option maxRecDepth 100000 in
set_option maxHeartbeats 2000000 in
theorem gf_mixo (p g N o m cap c : Nat) (t : Option Addr) (n ct : Nat) (f b : Nat → Nat) (w : World) (hg : IsGf w p) (hne : p ≠ g) (hr : BRow w g N f) (ho : o + m ≤ N) (hf : ∀ i, f i < 256) (hb : ∀ i, b i < 256)
    (ht : ∀ i, i < n → i < m → ∃ bb off, t = some ⟨bb, off, none⟩ ∧ w.cell? ⟨bb, off + i, none⟩ = some (.int .u8 (b i : Nat)) ∧ (bb = g → (off + i < o ∨ o + m ≤ off + i) ∧ off + i < N)) (hc : c < 256) (hN : N ≤ 1000000000) (hn : n ≤ 1000000000) :
    Calls Try.prog 62 #[.pointer (some ⟨p, 0, none⟩), .slice (some ⟨g, o, none⟩) m cap, .int .u8 c, .slice t n ct] w (MixoPost w g N (mixF f b c o (min m n))) := by
  have hth := Lib.hid ht
  have hfh := Lib.hid hf
  have hbh := Lib.hid hb
  have hgh := hide hg
  have hrh := hide hr
  have hpw := hg.lt
  clear ht hf hb hg hr
  have hK : (m ≤ n ∧ min m n = m) ∨ (n < m ∧ min m n = n) := by omega
  rcases hK with ⟨hmn, hK⟩ | ⟨hmn, hK⟩
  all_goals
    have hKh := Lib.hid hK
    have hkm : min m n ≤ m := by omega
    have hkn : min m n ≤ n := by omega
    first
      | (have hex := decide_eq_false (show ¬ min m n < m by omega))
      | (have hex := decide_eq_false (show ¬ min m n < n by omega))
    clear hK
    generalize min m n = K at *
    have hexh := Lib.hid hex
    clear hex
    go_enter Try.func62, Try.ntmps62
    go_wp2_with fail
    go_loopw [14] (fun i wr => ∃ k : Nat, k ≤ K ∧ i = .int .i64 k ∧ BRow wr g N (mixF f b c o k) ∧ w.grownBy wr (some g)) (fun i _ => K - (intOf i).toNat)
    case atStart => exact ⟨0, by omega, rfl, hrh.out.congr (fun i _ => (mixF_zero f b c o i).symm), only_refl _ _⟩
    case round =>
      obtain ⟨k, hk, rfl, hr, hgr⟩ := hrel
      by_cases hlt : k < K
      · obtain ⟨b2, o2, rfl, hc2, hd2⟩ := hth.out k (by omega) (by omega)
        have hc2' : wr.cell? ⟨b2, o2 + k, none⟩ = some (.int .u8 (b k : Nat)) := by
          by_cases e : b2 = g
          · subst e
            obtain ⟨hs, hin⟩ := hd2 rfl
            rw [FRow.cell hr (o2 + k) hin, ← hc2, FRow.cell hrh.out (o2 + k) hin, mixF_old _ _ _ _ _ _ (by omega)]
          · exact hgr.cell hc2 (by intro e2; injection e2 with e2; exact e e2)
        have hx2 := hfh.out (o + k)
        have hy2 := hbh.out k
        have he := Lib.hid (fun j => mixF_next f b c o k j)
        have hc1 : wr.cell? ⟨g, o + k, none⟩ = some (.int .u8 (f (o + k) : Nat)) := by rw [FRow.cell hr (o + k) (by omega), mixF_old _ _ _ _ _ _ (by omega)]
        have hf1 := FRow.fr hr (o + k)
        have hu := hide (u8_xor_nat (f (o + k)) (rmul c (b k)) hx2 (rmul_lt c (b k)))
        have hmu := Lib.hid (fun X hX => gf_mul p c (b k) X hX hc hy2)
        have i1 : (k : Int) < (m : Int) := by omega
        have i2 : (k : Int) < (n : Int) := by omega
        have hg2 : IsGf wr p := (hgr.block p hpw (by intro e; injection e with e; exact hne e)).trans hgh.out
        have hg2h := hide hg2
        have hset := Lib.hid (fun x : Nat => hr.set (o + k) x)
        clear hg2 hc2 hr hd2
        generalize f (o + k) = x at *
        generalize b k = y at *
        generalize rmul c y = z at *
        go_wp2_with fail
        go_region_with (go_at_call 71; refine (hmu.out _ (IsGf.drew hg2h.out)).mono ?_; rintro e w' ⟨rfl, n, rfl⟩)
        all_goals
          go_wp2_with fail
          rw [hu.out]
          go_roundw
          case rel => exact ⟨k + 1, by omega, by go_num, (hset.out _).congr (fun j _ => he.out j), only_set (only_drewN hgr _) (o + k) _⟩
          case measure => simp [intOf]; omega
      · obtain rfl : k = K := by omega
        have hrh2 := hide hr
        have hd := hexh.out
        clear hr
        go_wp2_with fail
        go_end0
        exact ⟨rfl, hrh2.out, hgr⟩
end Go.Proofs.Ytipfoclmdbbjiaa

/- Rows of numbers of any kind that a call made itself and appends to one at a time. Lemmas alone. -/
namespace Go.Proofs.Ytipfoclmdbbjiaa
open Go.RowKit
/-- numbers as cells -/
def rowZ (k : IntKind) (n : Nat) (f : Nat → Int) : List Value := (List.range n).map fun i => .int k (f i)
set_option maxRecDepth 100000 in
theorem rowZ_get (k : IntKind) (n : Nat) (f : Nat → Int) (i : Nat) (hi : i < n) : (rowZ k n f)[i]? = some (.int k (f i)) := by simp [rowZ, hi]
set_option maxRecDepth 100000 in
theorem rowZ_length (k : IntKind) (n : Nat) (f : Nat → Int) : (rowZ k n f).length = n := by simp [rowZ]
set_option maxRecDepth 100000 in
theorem rowZ_snoc (k : IntKind) (n : Nat) (f : Nat → Int) : rowZ k n f ++ [.int k (f n)] = rowZ k (n + 1) f := by
  unfold rowZ
  rw [List.range_succ]
  simp
def OwnZ (w : World) (base : Nat) (T : TypeId) (k : IntKind) (v : Value) (n : Nat) (f : Nat → Int) : Prop := w.ownsRow base T 1 v n (rowZ k n f)
set_option maxRecDepth 100000 in
theorem OwnZ.nil (w : World) (base : Nat) (T : TypeId) (k : IntKind) (f : Nat → Int) : OwnZ w base T k (.slice none 0 0) 0 f := World.ownsRow_nil _ _ _ _
set_option maxRecDepth 100000 in
theorem OwnZ.lt {w : World} {base n : Nat} {T : TypeId} {k : IntKind} {v : Value} {f : Nat → Int} (h : OwnZ w base T k v n f) : ∀ g, v.ownBlock = some g → base ≤ g ∧ g < w.heap.size := World.ownsRow.lt h
set_option maxRecDepth 100000 in
theorem OwnZ.kept {w w' : World} {base n : Nat} {T : TypeId} {k : IntKind} {v : Value} {f : Nat → Int} {row : Option Nat} (h : OwnZ w base T k v n f) (hg : w.grownBy w' row) (hne : ∀ b, row = some b → b < base) : OwnZ w' base T k v n f := by
  refine World.ownsRow.kept h hg ?_
  rcases hv : v.ownBlock with _ | b
  · exact .inl rfl
  · refine .inr (fun e => ?_)
    have h1 := h.lt b hv
    have h2 := hne b e.symm
    omega
set_option maxRecDepth 100000 in
theorem OwnZ.below {w w' : World} {base n : Nat} {T : TypeId} {k : IntKind} {v : Value} {f : Nat → Int} (h : OwnZ w base T k v n f) (hb : Below w.heap.size w w') : OwnZ w' base T k v n f := by
  refine ⟨h.1, ?_⟩
  rcases h.2 with h1 | ⟨g, cap, cur, hv, h2, hg, h3⟩
  · exact .inl h1
  · exact .inr ⟨g, cap, cur, hv, h2, (hb.block g (Array.getElem?_eq_some_iff.1 hg).1).trans hg, h3⟩
set_option maxRecDepth 100000 in
theorem OwnZ.congr {w : World} {base n : Nat} {T : TypeId} {k : IntKind} {v : Value} {f f' : Nat → Int} (h : OwnZ w base T k v n f) (e : ∀ j, j < n → f j = f' j) : OwnZ w base T k v n f' := by
  unfold OwnZ rowZ at *
  rw [show ((List.range n).map fun i => Value.int k (f' i)) = (List.range n).map fun i => Value.int k (f i) from List.map_congr_left fun j hj => by rw [e j (by simpa using hj)]]
  exact h
/-- a slice's first n numbers are f's -/
def ZAt (w : World) (k : IntKind) (s : Option Addr) (n : Nat) (f : Nat → Int) : Prop := ∀ i, i < n → ∃ b off, s = some ⟨b, off, none⟩ ∧ w.cell? ⟨b, off + i, none⟩ = some (.int k (f i))
set_option maxRecDepth 100000 in
theorem ZAt.below {w w' : World} {k : IntKind} {s : Option Addr} {n : Nat} {f : Nat → Int} (h : ZAt w k s n f) (hb : Below w.heap.size w w') : ZAt w' k s n f := by
  intro i hi
  obtain ⟨b, off, hs, hc⟩ := h i hi
  exact ⟨b, off, hs, by rw [hb.cell (p := ⟨b, off + i, none⟩) (cell_block_lt hc)]; exact hc⟩
set_option maxRecDepth 100000 in
theorem OwnZ.open {w : World} {base n : Nat} {T : TypeId} {k : IntKind} {v : Value} {f : Nat → Int} (h : OwnZ w base T k v n f) : ∃ s cap, v = .slice s n cap ∧ ZAt w k s n f ∧ n ≤ cap ∧ cap ≤ maxLen ∧ (s = none → n = 0 ∧ cap = 0) := by
  rcases h.2 with ⟨h1, h2⟩ | ⟨g, cap, cur, hv, hb, hg, q1, q2, q3, q4⟩
  · subst h2
    exact ⟨none, 0, h1, fun i hi => absurd hi (by omega), Nat.le_refl _, by unfold maxLen; omega, fun _ => ⟨rfl, rfl⟩⟩
  · refine ⟨some ⟨g, 0, none⟩, cap, hv, fun i hi => ⟨g, 0, rfl, ?_⟩, q1, q2, (fun e => by cases e)⟩
    rw [Nat.zero_add, cell_of_block hg]
    have e := rowZ_get k n f i hi
    rw [← q4, List.getElem?_take, if_pos (by omega), Array.getElem?_toList] at e
    exact e
set_option maxRecDepth 100000 in
theorem below_grown {B : Nat} {W a b : World} {row : Option Nat} (h : Below B W a) (hB : B ≤ W.heap.size) (hg : a.grownBy b row) (hp : ∀ p, row = some p → B ≤ p) : Below B W b :=
  ⟨hg.os.trans h.os, hg.tape.trans h.tape, hg.output.trans h.output, Nat.le_trans h.size hg.size, fun i hi => (hg.block i (by have := h.size; omega) (fun e => by have := hp i e.symm; omega)).trans (h.block i hi)⟩
set_option maxRecDepth 100000 in
/-- append(s, x), one number -/
theorem wpList_snocZ {P : Program} {S T : TypeId} {k : IntKind} {bytes : Nat} (hS : P.underlying S = some (.slice T)) (hI : (P.info? T).map (fun i => (i.zero, i.size, i.bytes)) = some (some (.int k 0), 1, bytes)) (hby : bytes ≤ 8)
    {ops : Array Oper} {rest : List Oper} {o : Oper} {a : Act} {w : World} {Q : Exit → Act → World → Prop} (hgd : o.guard = none) (s x : Operand)
    (ho : o.op = .call { callee := .builtin .append, args := #[s, x], argTypes := #[S, S] })
    (W : World) (v : Value) (base n : Nat) (f : Nat → Int) (hs : a.eval s = v) (hw : w = W.alloc (.cells #[.int k (f n)] T)) (hx : a.eval x = .slice (some ⟨W.heap.size, 0, none⟩) 1 1)
    (hown : OwnZ W base T k v n f) (hn : n ≤ 100000000) (hbase : base ≤ W.heap.size)
    (h : ∀ v' w', OwnZ w' base T k v' (n + 1) f → W.grownBy w' v.ownBlock → wpList P ops Q rest (a.put o.dst v') w') :
    wpList P ops Q (o :: rest) a w := by
  subst hw
  obtain ⟨i0, hi, hz0, hz1, hz2⟩ := info_parts hI
  have hown2 : (W.alloc (.cells #[.int k (f n)] T)).ownsRow base T 1 v n (rowZ k n f) := World.ownsRow.alloc hown _
  refine wpList_append_own _ hgd s x S ho base T i0 (.int k 0) 1 bytes hS hi hz0 hz1 hz2 rfl (by decide) _ n _ hs hown2 ⟨W.heap.size, 0, none⟩ 1 1 [.int k (f n)] hx rfl ?_ ?_ (by unfold maxLen; omega) (by
    have := Nat.mul_le_mul (show n + 1 ≤ 100000001 by omega) hby
    omega) (by show base ≤ (W.heap.push _).size; rw [Array.size_push]; omega) ?_
  · intro j u hj
    have h1 : j < 1 := (List.getElem?_eq_some_iff.1 hj).1
    obtain rfl : j = 0 := by omega
    rw [add_none, cell_of_block (last_block0 W (.cells #[.int k (f n)] T) _ rfl)]
    exact hj
  · intro u hu
    obtain rfl := List.mem_singleton.1 hu
    rfl
  · intro v' w' h1 h2 h3
    refine h v' w' ?_ ?_
    · unfold OwnZ
      rw [← rowZ_snoc]
      exact h1
    · have hsz : (W.alloc (.cells #[.int k (f n)] T)).heap.size = W.heap.size + 1 := by show (W.heap.push _).size = _; rw [Array.size_push]
      refine ⟨h2.os, h2.tape, h2.output, by have := h2.size; omega, fun i hi hne => (h2.block i (by omega) hne).trans (Below.heap_alloc W _ i hi)⟩
set_option maxRecDepth 100000 in
/-- the same, the number spelled otherwise -/
theorem wpList_snocX {P : Program} {S T : TypeId} {k : IntKind} {bytes : Nat} (hS : P.underlying S = some (.slice T)) (hI : (P.info? T).map (fun i => (i.zero, i.size, i.bytes)) = some (some (.int k 0), 1, bytes)) (hby : bytes ≤ 8)
    {ops : Array Oper} {rest : List Oper} {o : Oper} {a : Act} {w : World} {Q : Exit → Act → World → Prop} (hgd : o.guard = none) (s x : Operand)
    (ho : o.op = .call { callee := .builtin .append, args := #[s, x], argTypes := #[S, S] })
    (W : World) (v : Value) (base n : Nat) (f : Nat → Int) (u : Int) (hu : u = f n) (hs : a.eval s = v) (hw : w = W.alloc (.cells #[.int k u] T)) (hx : a.eval x = .slice (some ⟨W.heap.size, 0, none⟩) 1 1)
    (hown : OwnZ W base T k v n f) (hn : n ≤ 100000000) (hbase : base ≤ W.heap.size)
    (h : ∀ v' w', OwnZ w' base T k v' (n + 1) f → W.grownBy w' v.ownBlock → wpList P ops Q rest (a.put o.dst v') w') :
    wpList P ops Q (o :: rest) a w := by
  subst hu
  exact wpList_snocZ hS hI hby hgd s x ho W v base n f hs hw hx hown hn hbase h
set_option maxRecDepth 100000 in
/-- the same as a run of the operation -/
theorem run_snocZ {P : Program} {S T : TypeId} {k : IntKind} {bytes : Nat} (hS : P.underlying S = some (.slice T)) (hI : (P.info? T).map (fun i => (i.zero, i.size, i.bytes)) = some (some (.int k 0), 1, bytes)) (hby : bytes ≤ 8)
    (W : World) (v : Value) (base n : Nat) (f : Nat → Int) (x : Int) (hx : x = f n) (hown : OwnZ W base T k v n f) (hn : n ≤ 100000000) (hbase : base ≤ W.heap.size) (ty : TypeId) :
    ∃ v' w', (Builtin.append_ #[S, S] ty #[v, .slice (some ⟨W.heap.size, 0, none⟩) 1 1]).run P (W.alloc (.cells #[.int k x] T)) = .ok v' w' ∧ OwnZ w' base T k v' (n + 1) f ∧ W.grownBy w' v.ownBlock := by
  subst hx
  obtain ⟨i0, hi, hz0, hz1, hz2⟩ := info_parts hI
  have hown2 : (W.alloc (.cells #[.int k (f n)] T)).ownsRow base T 1 v n (rowZ k n f) := World.ownsRow.alloc hown _
  have hsz : (W.alloc (.cells #[.int k (f n)] T)).heap.size = W.heap.size + 1 := by show (W.heap.push _).size = _; rw [Array.size_push]
  obtain ⟨v', w', hr, h1, h2, _⟩ := run_append_own (P := P) (W.alloc (.cells #[.int k (f n)] T)) base S ty T i0 (.int k 0) 1 bytes hS hi hz0 hz1 hz2 rfl (by decide) v n _ hown2 ⟨W.heap.size, 0, none⟩ 1 1 [.int k (f n)] rfl (by
    intro j u hj
    have h1 : j < 1 := (List.getElem?_eq_some_iff.1 hj).1
    obtain rfl : j = 0 := by omega
    rw [add_none, cell_of_block (last_block0 W (.cells #[.int k (f n)] T) _ rfl)]
    exact hj) (by
    intro u hu
    obtain rfl := List.mem_singleton.1 hu
    rfl) (by unfold maxLen; omega) (by
    have := Nat.mul_le_mul (show n + 1 ≤ 100000001 by omega) hby
    omega) (by omega)
  refine ⟨v', w', hr, ?_, h2.os, h2.tape, h2.output, by have := h2.size; omega, fun i hi hne => (h2.block i (by omega) hne).trans (Below.heap_alloc W _ i hi)⟩
  unfold OwnZ
  rw [← rowZ_snoc]
  exact h1
end Go.Proofs.Ytipfoclmdbbjiaa

/- Rules of the walk for whole rows: a struct or an array that lies at the head of a block is loaded and stored by one rule, whatever its cells are. Lemmas alone. -/
namespace Go.Proofs.Ytipfoclmdbbjiaa
open Go.RowKit
/-- what lies at a block: a word of its own, which simp leaves alone -/
def blk (w : World) (b : Nat) : Option Obj := w.heap[b]?
def wLoad (ty : TypeId) (v : Value) : Sem Value := Instr.loadAt ty v
def wLoadRes (P : Program) (ty : TypeId) (b : Nat) (w : World) : Result Value := (wLoad ty (.pointer (some ⟨b, 0, none⟩))).run P w
def loadAns (n : Nat) (w : World) (o : Option Obj) (r : Result Value) : Result Value :=
  match o with
  | some (.cells C _ _) => if C.size = n then .ok (.agg C) w else r
  | _ => r
set_option maxRecDepth 100000 in
theorem loadAns_some {n : Nat} {w : World} {C : Array Value} {T : TypeId} {fr : Nat × Nat} {r : Result Value} (h : C.size = n) : loadAns n w (some (.cells C T fr)) r = .ok (.agg C) w := by
  simp [loadAns, h]
set_option maxRecDepth 100000 in
theorem wLoad_of (ty : TypeId) (v : Value) : Instr.loadAt ty v = wLoad ty v := rfl
set_option maxRecDepth 100000 in
theorem run_wLoad {P : Program} {ty : TypeId} {d : TypeDesc} {n : Nat} (hu : P.underlying ty = some d) (hd : (match d with | .struct _ | .array _ _ => true | _ => false) = true) (hi : (P.info? ty).map (·.size) = some n) (w : World) (b : Nat) :
    (wLoad ty (.pointer (some ⟨b, 0, none⟩))).run P w = loadAns n w (blk w b) (wLoadRes P ty b w) := by
  unfold loadAns wLoadRes blk
  split
  · rename_i C T fr hC
    split
    · rename_i hn
      unfold wLoad
      simp only [Instr.loadAt, Instr.sureAddr, Sem.run_bind, Sem.run_pure, Result.andThen_ok, run_loadVar_row w b T ty C fr d hC hu hd (by rw [hi, hn])]
    · rfl
  · rfl
/-- each of the cells is one value -/
def Plain (C : Array Value) : Prop := C.all (·.oneCell') = true
def wStore (ty : TypeId) (p x : Value) : Sem Unit := Instr.storeAt ty p x
def wStoreRes (P : Program) (ty : TypeId) (b : Nat) (C : Array Value) (w : World) : Result Unit := (wStore ty (.pointer (some ⟨b, 0, none⟩)) (.agg C)).run P w
def storeAns (n : Nat) (w : World) (b : Nat) (C : Array Value) (o : Option Obj) (r : Result Unit) : Result Unit :=
  match o with
  | some (.cells old _ (0, 0)) => if old.size = n ∧ C.size = n ∧ C.all (·.oneCell') = true then .ok () (w.setRow b C) else r
  | _ => r
set_option maxRecDepth 100000 in
theorem storeAns_some {n : Nat} {w : World} {b : Nat} {C old : Array Value} {T : TypeId} {r : Result Unit} (h1 : old.size = n) (h2 : C.size = n) (h3 : Plain C) : storeAns n w b C (some (.cells old T (0, 0))) r = .ok () (w.setRow b C) := by
  unfold storeAns
  exact if_pos ⟨h1, h2, h3⟩
set_option maxRecDepth 100000 in
theorem wStore_of (ty : TypeId) (p x : Value) : Instr.storeAt ty p x = wStore ty p x := rfl
set_option maxRecDepth 100000 in
theorem run_wStore {P : Program} {ty : TypeId} {n : Nat} (hi : (P.info? ty).map (·.size) = some n) (w : World) (b : Nat) (C : Array Value) :
    (wStore ty (.pointer (some ⟨b, 0, none⟩)) (.agg C)).run P w = storeAns n w b C (blk w b) (wStoreRes P ty b C w) := by
  unfold storeAns wStoreRes blk
  split
  · rename_i old T hC
    split
    · rename_i hn
      unfold wStore
      simp only [Instr.storeAt, Instr.sureAddr, Sem.run_bind, Sem.run_pure, Result.andThen_ok, run_storeVar_row w b T ty old C hC (by rw [hi, hn.2.1]) (by rw [hn.1, hn.2.1]) hn.2.2]
    · rfl
  · rfl
def rowPut (o : Option Obj) (C : Array Value) : Option Obj :=
  match o with
  | some (.cells _ T fr) => some (.cells C T fr)
  | x => x
set_option maxRecDepth 100000 in
theorem rowPut_some (old C : Array Value) (T : TypeId) (fr : Nat × Nat) : rowPut (some (.cells old T fr)) C = some (.cells C T fr) := rfl
set_option maxRecDepth 100000 in
theorem blk_setRow_if (w : World) (g k : Nat) (C : Array Value) : blk (w.setRow g C) k = if k = g then rowPut (blk w g) C else blk w k := by
  unfold blk
  by_cases h : k = g
  · subst h
    rw [if_pos rfl]
    cases hk : w.heap[k]? with
    | none =>
      have : ¬ k < w.heap.size := fun hlt => by rw [Array.getElem?_eq_getElem hlt] at hk; cases hk
      rw [Array.getElem?_eq_none (by rw [size_setRow]; omega)]; rfl
    | some o =>
      cases o with
      | cells old T fr => exact setRow_heap w k old C T fr hk
      | _ => simp [World.setRow, Array.getElem?_modify, hk, rowPut]
  · rw [if_neg h]; exact setRow_other w g k C h
set_option maxRecDepth 100000 in
theorem blk_alloc_if (w : World) (o : Obj) (k : Nat) : blk (w.alloc o) k = if k = w.heap.size then some o else blk w k := by
  show (w.heap.push o)[k]? = _
  rw [Array.getElem?_push]; rfl
set_option maxRecDepth 100000 in
theorem blk_setCell_ne (w : World) (g off k : Nat) (v : Value) (h : ¬ k = g) : blk (w.setCell ⟨g, off, none⟩ v) k = blk w k := heap_setCell_other w ⟨g, off, none⟩ k v h
def cellPut (o : Option Obj) (off : Nat) (v : Value) : Option Obj :=
  match o with
  | some (.cells C T fr) => some (.cells (C.setIfInBounds off v) T fr)
  | x => x
set_option maxRecDepth 100000 in
theorem cellPut_some (C : Array Value) (T : TypeId) (fr : Nat × Nat) (off : Nat) (v : Value) : cellPut (some (.cells C T fr)) off v = some (.cells (C.setIfInBounds off v) T fr) := rfl
set_option maxRecDepth 100000 in
theorem blk_setCell_if (w : World) (g off k : Nat) (v : Value) : blk (w.setCell ⟨g, off, none⟩ v) k = if k = g then cellPut (blk w g) off v else blk w k := by
  by_cases h : k = g
  · subst h
    rw [if_pos rfl]
    unfold blk World.setCell
    simp only [Array.getElem?_modify, if_true]
    cases hk : w.heap[k]? with
    | none => rfl
    | some o => cases o <;> rfl
  · rw [if_neg h]; exact heap_setCell_other w ⟨g, off, none⟩ k v h
set_option maxRecDepth 100000 in
theorem blk_drewN_at (w : World) (n k : Nat) : blk (w.drewN n) k = blk w k := rfl
set_option maxRecDepth 100000 in
theorem blk_drew_at (w : World) (k : Nat) : blk w.drew k = blk w k := rfl
set_option maxRecDepth 100000 in
theorem results_row2_tmp {P : Program} {fn : Func} {p q u : Tmp} {ty ty2 : TypeId} (h : fn.results = #[.cell p ty, .cell q ty2, .tmp u]) (tmps : Array Value) (w : World) (g : Nat) (t : TypeId) (cs : Array Value) (fr : Nat × Nat) (d : TypeDesc) (g2 : Nat) (t2 : TypeId) (cs2 : Array Value) (fr2 : Nat × Nat) (d2 : TypeDesc) (x : Value)
    (hp : tmps.getD p undef = .pointer (some ⟨g, 0, none⟩)) (hq : tmps.getD q undef = .pointer (some ⟨g2, 0, none⟩)) (hx : tmps.getD u undef = x) (hg : w.heap[g]? = some (.cells cs t fr)) (hg2 : w.heap[g2]? = some (.cells cs2 t2 fr2))
    (hu : P.underlying ty = some d) (hd : (match d with | .struct _ | .array _ _ => true | _ => false) = true) (hi : (P.info? ty).map (·.size) = some cs.size)
    (hu2 : P.underlying ty2 = some d2) (hd2 : (match d2 with | .struct _ | .array _ _ => true | _ => false) = true) (hi2 : (P.info? ty2).map (·.size) = some cs2.size) :
    (results fn tmps).run P w = .ok (.tuple #[.agg cs, .agg cs2, x]) w := by
  have hp' : tmps[p]?.getD undef = .pointer (some ⟨g, 0, none⟩) := by simpa using hp
  have hq' : tmps[q]?.getD undef = .pointer (some ⟨g2, 0, none⟩) := by simpa using hq
  have hx' : tmps[u]?.getD undef = x := by simpa using hx
  simp [results, h, hp', hq', hx', asAddr, Sem.run_bind, run_loadVar_row w g t ty cs fr d hg hu hd hi, run_loadVar_row w g2 t2 ty2 cs2 fr2 d2 hg2 hu2 hd2 hi2]
set_option maxRecDepth 100000 in
theorem results_tmp_row_tmp {P : Program} {fn : Func} {p u v : Tmp} {ty : TypeId} (h : fn.results = #[.tmp u, .cell p ty, .tmp v]) (tmps : Array Value) (w : World) (g : Nat) (t : TypeId) (cs : Array Value) (fr : Nat × Nat) (d : TypeDesc) (x y : Value)
    (hp : tmps.getD p undef = .pointer (some ⟨g, 0, none⟩)) (hx : tmps.getD u undef = x) (hy : tmps.getD v undef = y) (hg : w.heap[g]? = some (.cells cs t fr))
    (hu : P.underlying ty = some d) (hd : (match d with | .struct _ | .array _ _ => true | _ => false) = true) (hi : (P.info? ty).map (·.size) = some cs.size) :
    (results fn tmps).run P w = .ok (.tuple #[x, .agg cs, y]) w := by
  have hp' : tmps[p]?.getD undef = .pointer (some ⟨g, 0, none⟩) := by simpa using hp
  have hx' : tmps[u]?.getD undef = x := by simpa using hx
  have hy' : tmps[v]?.getD undef = y := by simpa using hy
  simp [results, h, hp', hx', hy', asAddr, Sem.run_bind, run_loadVar_row w g t ty cs fr d hg hu hd hi]
set_option maxRecDepth 100000 in
theorem size_lt_alloc (w : World) (o : Obj) : w.heap.size < (w.drew.alloc o).heap.size := by show _ < (w.heap.push _).size; rw [Array.size_push]; omega
set_option maxRecDepth 100000 in
theorem size_le_drew (w : World) {n : Nat} (h : w.drew.heap.size ≤ n) : w.heap.size ≤ n := h
set_option maxRecDepth 100000 in
theorem size_le_alloc (w : World) (o : Obj) {n : Nat} (h : (w.drew.alloc o).heap.size ≤ n) : w.heap.size ≤ n := Nat.le_of_lt (Nat.lt_of_lt_of_le (size_lt_alloc w o) h)
set_option maxRecDepth 100000 in
theorem only_cell {a w : World} {g : Nat} (h : a.grownBy w (some g)) {b : Nat} (off : Nat) (hb : b < a.heap.size) (hne : b ≠ g) : w.cell? ⟨b, off, none⟩ = a.cell? ⟨b, off, none⟩ :=
  World.cell?_of_block (h.block b hb (fun e => hne (by injection e)))
set_option maxRecDepth 100000 in
theorem only_blk {a w : World} {g : Nat} (h : a.grownBy w (some g)) {b : Nat} (hb : b < a.heap.size) (hne : b ≠ g) : w.heap[b]? = a.heap[b]? := h.block b hb (fun e => hne (by injection e))
set_option maxRecDepth 100000 in
theorem blk_of {w : World} {b : Nat} {o : Option Obj} (h : w.heap[b]? = o) : blk w b = o := h
set_option maxRecDepth 100000 in
theorem blk_lt {w : World} {b : Nat} {o : Obj} (h : blk w b = some o) : b < w.heap.size := (Array.getElem?_eq_some_iff.1 (show w.heap[b]? = some o from h)).1
set_option maxRecDepth 100000 in
theorem blk_heap {w : World} {b : Nat} {o : Option Obj} (h : blk w b = o) : w.heap[b]? = o := h
set_option maxRecDepth 100000 in
theorem blk_below {B : Nat} {w w' : World} (hb : Below B w w') {b : Nat} (h : b < B) : blk w' b = blk w b := hb.block b h
end Go.Proofs.Ytipfoclmdbbjiaa

/- A region that draws its order and only reads, with calls that make memory: one walk in the order of the text, under a class of worlds C that such calls do not leave. Lemmas alone. -/
namespace Go.Proofs.Ytipfoclmdbbjiaa
open Go.RowKit
section
variable {P : Program} {ops : Array Oper} {C : World → Prop} {Q : Act → Prop} {o : Oper} {rest : List Oper} {a : Act} {v : Value}
set_option maxRecDepth 100000 in
theorem q_run (hw : Region.wanted o (yielded ops a.tmps) = true) (hv : ∀ w, C w → (execOp a.eval o).run P w = .ok (.value v) w) (h : wpQuiet P ops C Q rest (a.put o.dst v)) : wpQuiet P ops C Q (o :: rest) a := by
  unfold wpQuiet
  rw [if_pos hw]
  refine ⟨v, fun w hC => ?_, h⟩
  unfold Oper.quietAt
  rw [hv w hC]
  exact ⟨rfl, rfl⟩
set_option maxRecDepth 100000 in
theorem q_skip (hw : Region.wanted o (yielded ops a.tmps) = false) (h : wpQuiet P ops C Q rest (a.put o.dst undef)) : wpQuiet P ops C Q (o :: rest) a := by
  unfold wpQuiet
  rw [hw]
  exact h
/-- what comes back, in a world in which nothing older has turned -/
def Ret (W : World) (v : Value) (e : Ending) (W' : World) : Prop := e = .returned v ∧ Below W.heap.size W W'
set_option maxRecDepth 100000 in
theorem q_call {f : FuncId} {args : Array Value} (hc : ∀ w, C w → Calls P f args w (Ret w v)) (hcl : ∀ w w', C w → Below w.heap.size w w' → C w')
    (hw : Region.wanted o (yielded ops a.tmps) = true) (he : ∀ w, C w → (execOp a.eval o).run P w = .ok (.enter f args) w) (h : wpQuiet P ops C Q rest (a.put o.dst v)) : wpQuiet P ops C Q (o :: rest) a := by
  unfold wpQuiet
  rw [if_pos hw]
  refine ⟨v, fun w hC => ?_, h⟩
  unfold Oper.quietAt
  rw [he w hC]
  exact ⟨rfl, (hc w hC).mono fun e w' ⟨h1, h2⟩ => ⟨h1, hcl w w' hC h2⟩⟩
end
set_option maxRecDepth 100000 in
theorem below_step {B : Nat} {a w w' : World} (h : Below B a w) (hB : B ≤ w.heap.size) (hb : Below w.heap.size w w') : Below B a w' := h.trans (hb.mono hB)
/-! ### a region that draws its order, and writes by one call or one store: what reads is taken first, under a condition S on the world that may be changed behind the call -/
/-- the operation of this number: a word that unfolds to the operation itself -/
def opAt : List Oper → Nat → Option Oper
  | [], _ => none
  | o :: _, 0 => some o
  | _ :: l, n + 1 => opAt l n
set_option maxRecDepth 100000 in
theorem opAt_eq : ∀ (l : List Oper) (i : Nat), opAt l i = l[i]?
  | [], i => by simp [opAt]
  | o :: l, 0 => rfl
  | o :: l, n + 1 => by rw [opAt, opAt_eq l n]; rfl
set_option maxRecDepth 100000 in
theorem opAt_of {ops : Array Oper} {i : Nat} {oi : Oper} (h : opAt ops.toList i = some oi) : ops[i]? = some oi := by
  rw [opAt_eq, Array.getElem?_toList] at h; exact h
section
variable {P : Program} {ops : Array Oper} {Q : Exit → Act → World → Prop} {S S' : World → Prop}
set_option maxRecDepth 100000 in
theorem wpAnyH_mono (hsub : ∀ w, S' w → S w) : ∀ (fuel : Nat) (listed : Array Bool) (a : Act) (w : World), wpAnyH P .any ops Q S' fuel listed a w → wpAnyH P .any ops Q S fuel listed a w
  | 0, _, _, _, h => h
  | fuel + 1, listed, a, w, h => ⟨h.1, fun i hi => wpOp_mono (fun a' w' ⟨h1, h2⟩ => ⟨hsub w' h1, wpAnyH_mono hsub fuel _ a' w' h2⟩) (h.2 i hi)⟩
set_option maxRecDepth 100000 in
theorem h_begin {id : Nat} {a : Act} {w : World} (n : Nat) (S : World → Prop) (hn : ops.size = n) (hm : P.follows .mixedOrders = true) (hS : S w.drew)
    (h : wpAnyH P .any ops (NoPanic Q) S n (Array.replicate n false) a w.drew) : (Code.region id ops true).wp P Q a w :=
  wp_region_noPanic (wp_region_held_drew hm hS (fun _ => by rw [hn]; exact h))
set_option maxRecDepth 100000 in
theorem h_run {i : Nat} {oi : Oper} {v : Value} {fuel : Nat} {listed : Array Bool} {a : Act} {w : World} (hS : S w) (hi0 : opAt ops.toList i = some oi)
    (hs : Region.noSelect ops = true) (hf : Region.free .any ops listed i = true) (hr : (Region.ready .any ops listed).contains i = true)
    (hw : Region.wanted oi (yielded ops a.tmps) = true) (hv : ∀ w, S w → (execOp a.eval oi).run P w = .ok (.value v) w)
    (h : wpAnyH P .any ops (NoPanic Q) S fuel (listed.setIfInBounds i true) (a.put oi.dst v) w) : wpAnyH P .any ops (NoPanic Q) S (fuel + 1) listed a w :=
  wpAnyH_take (opAt_of hi0) hs hf hr (fun _ _ _ h => h) (.inl ⟨hw, hv⟩) hS h
set_option maxRecDepth 100000 in
theorem h_skip {i : Nat} {oi : Oper} {fuel : Nat} {listed : Array Bool} {a : Act} {w : World} (hS : S w) (hi0 : opAt ops.toList i = some oi)
    (hs : Region.noSelect ops = true) (hf : Region.free .any ops listed i = true) (hr : (Region.ready .any ops listed).contains i = true)
    (hw : Region.wanted oi (yielded ops a.tmps) = false)
    (h : wpAnyH P .any ops (NoPanic Q) S fuel (listed.setIfInBounds i true) (a.put oi.dst undef) w) : wpAnyH P .any ops (NoPanic Q) S (fuel + 1) listed a w :=
  wpAnyH_take (opAt_of hi0) hs hf hr (fun _ _ _ h => h) (.inr ⟨hw, rfl⟩) hS h
set_option maxRecDepth 100000 in
/-- the one that may come up is a call -/
theorem h_call {i : Nat} {oi : Oper} {f : FuncId} {args : Array Value} {R : Ending → World → Prop} {fuel : Nat} {listed : Array Bool} {a : Act} {w : World} (S' : World → Prop) (hsub : ∀ w, S' w → S w)
    (hc : Calls P f args w R) (hi0 : opAt ops.toList i = some oi) (hr : Region.ready .any ops listed = [i]) (hw : Region.wanted oi (yielded ops a.tmps) = true)
    (he : (execOp a.eval oi).run P w = .ok (.enter f args) w)
    (h : ∀ e w', R e w' → ∃ v, e = .returned v ∧ S' w' ∧ wpAnyH P .any ops (NoPanic Q) S' fuel (listed.setIfInBounds i true) (a.put oi.dst v) w') : wpAnyH P .any ops (NoPanic Q) S (fuel + 1) listed a w := by
  refine wpAnyH_all hr (by simp) (fun j hj => ?_)
  obtain rfl : j = i := by simpa using hj
  refine wpOp_step (opAt_of hi0) (fun K' hK => ?_)
  rw [if_pos hw]
  unfold Oper.wp
  rw [he]
  exact hc.mono fun e w' hR => by
    obtain ⟨v, rfl, hS', hx⟩ := h e w' hR
    exact hK _ _ ⟨hsub w' hS', wpAnyH_mono hsub _ _ _ _ hx⟩
set_option maxRecDepth 100000 in
/-- the one that may come up is carried out in this world -/
theorem h_value {i : Nat} {oi : Oper} {v : Value} {fuel : Nat} {listed : Array Bool} {a : Act} {w w' : World} (S' : World → Prop) (hsub : ∀ w, S' w → S w)
    (hi0 : opAt ops.toList i = some oi) (hr : Region.ready .any ops listed = [i]) (hw : Region.wanted oi (yielded ops a.tmps) = true)
    (he : (execOp a.eval oi).run P w = .ok (.value v) w') (hS' : S' w')
    (h : wpAnyH P .any ops (NoPanic Q) S' fuel (listed.setIfInBounds i true) (a.put oi.dst v) w') : wpAnyH P .any ops (NoPanic Q) S (fuel + 1) listed a w := by
  refine wpAnyH_all hr (by simp) (fun j hj => ?_)
  obtain rfl : j = i := by simpa using hj
  refine wpOp_step (opAt_of hi0) (fun K' hK => ?_)
  rw [if_pos hw]
  unfold Oper.wp
  rw [he]
  exact hK _ _ ⟨hsub w' hS', wpAnyH_mono hsub _ _ _ _ h⟩
set_option maxRecDepth 100000 in
theorem h_write {i : Nat} {oi : Oper} {fuel : Nat} {listed : Array Bool} {a : Act} {w w' : World} (S' : World → Prop) (hsub : ∀ w, S' w → S w)
    (hi0 : opAt ops.toList i = some oi) (hr : Region.ready .any ops listed = [i]) (hw : Region.wanted oi (yielded ops a.tmps) = true)
    (he : (execOp a.eval oi).run P w = .ok .skip w') (hS' : S' w')
    (h : wpAnyH P .any ops (NoPanic Q) S' fuel (listed.setIfInBounds i true) (a.put oi.dst undef) w') : wpAnyH P .any ops (NoPanic Q) S (fuel + 1) listed a w := by
  refine wpAnyH_all hr (by simp) (fun j hj => ?_)
  obtain rfl : j = i := by simpa using hj
  refine wpOp_step (opAt_of hi0) (fun K' hK => ?_)
  rw [if_pos hw]
  unfold Oper.wp
  rw [he]
  exact hK _ _ ⟨hsub w' hS', wpAnyH_mono hsub _ _ _ _ h⟩
set_option maxRecDepth 100000 in
theorem h_done {fuel : Nat} {listed : Array Bool} {a : Act} {w : World} (hr : Region.ready .any ops listed = []) (h : Q .normal a w) : wpAnyH P .any ops (NoPanic Q) S fuel listed a w :=
  wpAnyH_done hr (NoPanic.normal h) fuel
end
end Go.Proofs.Ytipfoclmdbbjiaa
