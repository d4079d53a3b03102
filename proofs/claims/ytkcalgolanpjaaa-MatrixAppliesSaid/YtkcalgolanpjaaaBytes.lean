/- Slices of bytes as functions from places to numbers; appending one to an empty row; adding one, scaled, to a part of a row (Mix). Lemmas, and the contract of package gf's Mix at any place of a row. -/
import Derived.Test.YtkcalgolanpjaaaGfRows
import Derived.Test.YtkcalgolanpjaaaRowF
namespace Go.Proofs.Ytkcalgolanpjaaa
open Go.RowKit
attribute [local irreducible] gexp gtbl glog rmul rinv rpow zexp
/-- a slice's first n bytes are f's -/
def By (w : World) (s : Option Addr) (n : Nat) (f : Nat → Nat) : Prop := ∀ i, i < n → ∃ b off, s = some ⟨b, off, none⟩ ∧ w.cell? ⟨b, off + i, none⟩ = some (.int .u8 (f i : Nat))
/-- block g's first n cells are f's bytes; it may be written -/
def BRow (w : World) (g n : Nat) (f : Nat → Nat) : Prop := FRow w g 5 .u8 n (fun i => (f i : Nat))
theorem By.below {w w' : World} {s : Option Addr} {n : Nat} {f : Nat → Nat} (h : By w s n f) (hb : Below w.heap.size w w') : By w' s n f := by
  intro i hi
  obtain ⟨b, off, hs, hc⟩ := h i hi
  exact ⟨b, off, hs, by rw [hb.cell (p := ⟨b, off + i, none⟩) (cell_block_lt hc)]; exact hc⟩
theorem By.less {w : World} {s : Option Addr} {n m : Nat} {f : Nat → Nat} (h : By w s n f) (hm : m ≤ n) : By w s m f := fun i hi => h i (by omega)
theorem By.congr {w : World} {s : Option Addr} {n : Nat} {f f' : Nat → Nat} (h : By w s n f) (e : ∀ i, i < n → f i = f' i) : By w s n f' := fun i hi => by rw [← e i hi]; exact h i hi
theorem By.drewN {w : World} {s : Option Addr} {n : Nat} {f : Nat → Nat} (h : By w s n f) (k : Nat) : By (w.drewN k) s n f := h
theorem By.alloc {w : World} {s : Option Addr} {n : Nat} {f : Nat → Nat} (h : By w s n f) (o : Obj) : By (w.alloc o) s n f := h.below ((Below.refl _ _).alloc (Nat.le_refl _) _)
theorem By.sl {w : World} {s : Option Addr} {n : Nat} {f : Nat → Nat} (h : By w s n f) : SlN .u8 w s ((List.range n).map f) := by
  intro i x hx
  have hi : i < n := by have := (List.getElem?_eq_some_iff.1 hx).1; simpa using this
  obtain ⟨b, off, hs, hc⟩ := h i hi
  refine ⟨b, off, hs, ?_⟩
  simp [hi] at hx
  rw [hc, hx]
theorem By.block {w : World} {s : Option Addr} {n : Nat} {f : Nat → Nat} (h : By w s n f) (h0 : 0 < n) : ∃ b off, s = some ⟨b, off, none⟩ ∧ b < w.heap.size := by
  obtain ⟨b, off, hs, hc⟩ := h 0 h0
  exact ⟨b, off, hs, cell_block_lt hc⟩
theorem BRow.by {w : World} {g n : Nat} {f : Nat → Nat} (h : BRow w g n f) : By w (some ⟨g, 0, none⟩) n f := fun i hi => ⟨g, 0, rfl, by rw [Nat.zero_add]; exact FRow.cell h i hi⟩
theorem BRow.at {w : World} {g n : Nat} {f : Nat → Nat} (h : BRow w g n f) (o m : Nat) (hm : o + m ≤ n) : By w (some ⟨g, o, none⟩) m (fun i => f (o + i)) := fun i hi => ⟨g, o, rfl, FRow.cell h (o + i) (by omega)⟩
theorem BRow.congr {w : World} {g n : Nat} {f f' : Nat → Nat} (h : BRow w g n f) (e : ∀ i, i < n → f i = f' i) : BRow w g n f' := FRow.congr h fun i hi => by rw [e i hi]
theorem BRow.set {w : World} {g n : Nat} {f : Nat → Nat} (h : BRow w g n f) (i x : Nat) : BRow (w.setCell ⟨g, i, none⟩ (.int .u8 (x : Nat))) g n (fun j => if j = i then x else f j) :=
  FRow.congr (FRow.set h i x) fun j _ => by dsimp only; split <;> rfl
theorem BRow.less {w : World} {g n m : Nat} {f : Nat → Nat} (h : BRow w g n f) (hm : m ≤ n) : BRow w g m f := FRow.less h m hm
theorem BRow.lt {w : World} {g n : Nat} {f : Nat → Nat} (h : BRow w g n f) : g < w.heap.size := FRow.lt h
theorem BRow.below {B : Nat} {w w' : World} {g n : Nat} {f : Nat → Nat} (h : BRow w g n f) (hb : Below B w w') (hg : g < B) : BRow w' g n f := FRow.below h hb hg
theorem brow_made (w : World) (n : Nat) : BRow (w.alloc (.cells (madeCells #[.int .u8 0] n) 5)) w.heap.size n (fun _ => 0) := frow_made w _ _ n
/-- append([]byte{}, x...): a new row -/
theorem wpList_appB {ops : Array Oper} {rest : List Oper} {o : Oper} {a : Act} {w : World} {Q : Exit → Act → World → Prop} (hgd : o.guard = none) (s x : Operand)
    (ho : o.op = .call { callee := .builtin .append, args := #[s, x], argTypes := #[22, 22] })
    (W : World) (hs : a.eval s = .slice (some ⟨W.heap.size, 0, none⟩) 0 0) (hw : w = W.alloc (.cells #[] 5))
    (A : Option Addr) (c n : Nat) (f : Nat → Nat) (hx : a.eval x = .slice A n c) (hsl : By W A n f) (hnone : A = none → n = 0 ∧ c = 0) (hn : n ≤ 100000000)
    (h : ∀ g cap w', W.heap.size ≤ g → n ≤ cap → cap ≤ maxLen → BRow w' g n f → Below W.heap.size W w' → wpList Try.prog ops Q rest (a.put o.dst (.slice (some ⟨g, 0, none⟩) n cap)) w') :
    wpList Try.prog ops Q (o :: rest) a w := by
  subst hw
  obtain ⟨i0, hi, hz0, hz1, hz2⟩ := info_parts info8
  have hown := World.ownsRow_lit (base := W.heap.size) (e := 5) (size := 1) W #[] 0 (Nat.le_refl _) (by unfold maxLen; omega) rfl
  have hB0 : Below W.heap.size W (W.alloc (.cells #[] 5)) := (Below.refl _ _).alloc (Nat.le_refl _) _
  have hlz : W.heap.size < (W.alloc (.cells #[] 5)).heap.size := by show _ < (W.heap.push _).size; rw [Array.size_push]; omega
  have hsl := hsl.alloc (.cells #[] 5)
  cases A with
  | none =>
    obtain ⟨rfl, rfl⟩ := hnone rfl
    refine wpList_append_own_none hgd s x 22 ho W.heap.size 5 i0 1 Try.underlying22 hi _ 0 _ hs hown hx ?_
    exact h W.heap.size 0 _ (Nat.le_refl _) (Nat.le_refl _) (by unfold maxLen; omega) ⟨_, last_block0 W _ _ rfl, by simp, fun i hi => absurd hi (by omega)⟩ hB0
  | some ad =>
    refine wpList_append_own _ hgd s x 22 ho W.heap.size 5 i0 (.int .u8 0) 1 1 Try.underlying22 hi hz0 hz1 hz2 rfl (by decide) _ 0 _ hs hown ad n c (rowB ((List.range n).map f)) hx (by rw [rowB_length]; simp) ?_ ?_ (by unfold maxLen; omega) (by omega) (Nat.le_of_lt hlz) ?_
    · intro j u hj
      rw [rowB_get] at hj
      obtain ⟨y, hy, hyu⟩ := Option.map_eq_some_iff.1 hj
      obtain ⟨b, off, he, hc⟩ := hsl.sl j y hy
      injection he with he
      subst he hyu
      by_cases hz : j = 0
      · subst hz; simpa [Addr.add] using hc
      · simpa [Addr.add, hz] using hc
    · intro u hu
      unfold rowB at hu
      obtain ⟨y, _, rfl⟩ := List.mem_map.1 hu
      rfl
    · intro v' w' h1 h2 h3
      have hne : v' ≠ .slice none 0 0 := fun e => by have := (h3.1 e).1; simp at this
      obtain ⟨g, cap, rfl, hg1, hg2⟩ := own_open h1 hne
      have e0 : 0 + n = n := Nat.zero_add _
      rw [e0] at h1 ⊢
      obtain ⟨q1, q2, q3⟩ := own_cap h1
      refine h g cap w' hg1 q1 q2 (FRow.own h1 fun i hi => ?_) (below_of_only hB0 h2 (Nat.le_of_lt hlz) (Nat.le_refl _))
      show (rowB ((List.range n).map f))[i]? = _
      rw [rowB_get]
      simp [hi]
/-- Mix, at any place of a row -/
def MixoPost (W : World) (g N : Nat) (f : Nat → Nat) (e : Ending) (W' : World) : Prop := e = .returned (.tuple #[]) ∧ BRow W' g N f ∧ W.grownBy W' (some g)
def mixF (f b : Nat → Nat) (c o K j : Nat) : Nat := if o ≤ j ∧ j < o + K then f j ^^^ rmul c (b (j - o)) else f j
theorem mixF_zero (f b : Nat → Nat) (c o j : Nat) : mixF f b c o 0 j = f j := by unfold mixF; rw [if_neg (by omega)]
theorem mixF_next (f b : Nat → Nat) (c o k j : Nat) : (if j = o + k then f (o + k) ^^^ rmul c (b k) else mixF f b c o k j) = mixF f b c o (k + 1) j := by
  unfold mixF
  by_cases e : j = o + k
  · subst e; rw [if_pos rfl, if_pos (by omega), show o + k - o = k by omega]
  · rw [if_neg e]
    by_cases h : o ≤ j ∧ j < o + k
    · rw [if_pos h, if_pos (by omega)]
    · rw [if_neg h, if_neg (by omega)]
theorem mixF_old (f b : Nat → Nat) (c o k j : Nat) (h : o + k ≤ j ∨ j < o) : mixF f b c o k j = f j := by unfold mixF; rw [if_neg (by omega)]
attribute [local irreducible] mixF
set_option maxHeartbeats 2000000 in
theorem gf_mixo (p g N o m cap c : Nat) (t : Option Addr) (n ct : Nat) (f b : Nat → Nat) (w : World) (hg : IsGf w p) (hne : p ≠ g) (hr : BRow w g N f) (ho : o + m ≤ N) (hf : ∀ i, f i < 256) (hb : ∀ i, b i < 256)
    (ht : ∀ i, i < n → i < m → ∃ bb off, t = some ⟨bb, off, none⟩ ∧ w.cell? ⟨bb, off + i, none⟩ = some (.int .u8 (b i : Nat)) ∧ (bb = g → (off + i < o ∨ o + m ≤ off + i) ∧ off + i < N)) (hc : c < 256) (hN : N ≤ 1000000000) (hn : n ≤ 1000000000) :
    Calls Try.prog 44 #[.pointer (some ⟨p, 0, none⟩), .slice (some ⟨g, o, none⟩) m cap, .int .u8 c, .slice t n ct] w (MixoPost w g N (mixF f b c o (min m n))) := by
  have hth := Lib.hid ht
  have hfh := Lib.hid hf
  have hbh := Lib.hid hb
  have hgh := hide hg
  have hrh := hide hr
  have hpw := hg.lt
  clear ht hf hb hg hr
  have hK : (m ≤ n ∧ min m n = m) ∨ (n < m ∧ min m n = n) := by omega
  rcases hK with ⟨hmn, hK⟩ | ⟨hmn, hK⟩
  all_goals
    have hKh := Lib.hid hK
    have hkm : min m n ≤ m := by omega
    have hkn : min m n ≤ n := by omega
    first
      | (have hex := decide_eq_false (show ¬ min m n < m by omega))
      | (have hex := decide_eq_false (show ¬ min m n < n by omega))
    clear hK
    generalize min m n = K at *
    have hexh := Lib.hid hex
    clear hex
    go_enter Try.func44, Try.ntmps44
    go_wp2_with fail
    go_loopw [14] (fun i wr => ∃ k : Nat, k ≤ K ∧ i = .int .i64 k ∧ BRow wr g N (mixF f b c o k) ∧ w.grownBy wr (some g)) (fun i _ => K - (intOf i).toNat)
    case atStart => exact ⟨0, by omega, rfl, hrh.out.congr (fun i _ => (mixF_zero f b c o i).symm), only_refl _ _⟩
    case round =>
      obtain ⟨k, hk, rfl, hr, hgr⟩ := hrel
      by_cases hlt : k < K
      · obtain ⟨b2, o2, rfl, hc2, hd2⟩ := hth.out k (by omega) (by omega)
        have hc2' : wr.cell? ⟨b2, o2 + k, none⟩ = some (.int .u8 (b k : Nat)) := by
          by_cases e : b2 = g
          · subst e
            obtain ⟨hs, hin⟩ := hd2 rfl
            rw [FRow.cell hr (o2 + k) hin, ← hc2, FRow.cell hrh.out (o2 + k) hin, mixF_old _ _ _ _ _ _ (by omega)]
          · exact hgr.cell hc2 (by intro e2; injection e2 with e2; exact e e2)
        have hx2 := hfh.out (o + k)
        have hy2 := hbh.out k
        have he := Lib.hid (fun j => mixF_next f b c o k j)
        have hc1 : wr.cell? ⟨g, o + k, none⟩ = some (.int .u8 (f (o + k) : Nat)) := by rw [FRow.cell hr (o + k) (by omega), mixF_old _ _ _ _ _ _ (by omega)]
        have hf1 := FRow.fr hr (o + k)
        have hu := hide (u8_xor_nat (f (o + k)) (rmul c (b k)) hx2 (rmul_lt c (b k)))
        have hmu := Lib.hid (fun X hX => gf_mul p c (b k) X hX hc hy2)
        have i1 : (k : Int) < (m : Int) := by omega
        have i2 : (k : Int) < (n : Int) := by omega
        have hg2 : IsGf wr p := (hgr.block p hpw (by intro e; injection e with e; exact hne e)).trans hgh.out
        have hg2h := hide hg2
        have hset := Lib.hid (fun x : Nat => hr.set (o + k) x)
        clear hg2 hc2 hr hd2
        generalize f (o + k) = x at *
        generalize b k = y at *
        generalize rmul c y = z at *
        go_wp2_with fail
        go_region_with (go_at_call 49; refine (hmu.out _ (IsGf.drew hg2h.out)).mono ?_; rintro e w' ⟨rfl, n, rfl⟩)
        all_goals
          go_wp2_with fail
          rw [hu.out]
          go_roundw
          case rel => exact ⟨k + 1, by omega, by go_num, (hset.out _).congr (fun j _ => he.out j), only_set (only_drewN hgr _) (o + k) _⟩
          case measure => simp [intOf]; omega
      · obtain rfl : k = K := by omega
        have hrh2 := hide hr
        have hd := hexh.out
        clear hr
        go_wp2_with fail
        go_end0
        exact ⟨rfl, hrh2.out, hgr⟩
end Go.Proofs.Ytkcalgolanpjaaa
