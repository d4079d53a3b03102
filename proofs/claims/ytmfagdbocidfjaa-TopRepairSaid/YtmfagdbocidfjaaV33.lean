import Derived.Test.YtmfagdbocidfjaaV32
import Derived.Test.YtmfagdbocidfjaaV30
/- Get of package word and of the document's answer: the word of up to eight bytes. Conditions: the slice reads as the list named, of bytes. -/
namespace Go.Proofs.Ytmfagdbocidfjaa
open Go.RowKit
/-- the word of bytes, the highest first -/
def getN (l : List Nat) : Nat := l.foldl (fun w b => w * 256 + b) 0
set_option maxRecDepth 100000 in
theorem getN_take (l : List Nat) (k x : Nat) (h : l[k]? = some x) : getN (l.take (k + 1)) = getN (l.take k) * 256 + x := by
  rw [List.take_add_one, h]; simp [getN]
set_option maxRecDepth 100000 in
theorem getN_lt (l : List Nat) (h : ∀ x ∈ l, x < 256) (k : Nat) : getN (l.take k) < 256 ^ k := by
  induction k with
  | zero => simp [getN]
  | succ k ih =>
    rcases hx : l[k]? with _ | x
    · rw [List.take_add_one, hx]
      simp only [Option.toList, List.append_nil]
      exact Nat.lt_of_lt_of_le ih (Nat.pow_le_pow_right (by decide) (by omega))
    · rw [getN_take l k x hx, Nat.pow_succ]
      have := h x (List.mem_of_getElem? hx)
      omega
set_option maxRecDepth 100000 in
theorem pow256 (k : Nat) (h : k ≤ 7) : 256 ^ k ≤ 72057594037927936 := by
  have : 256 ^ k ≤ 256 ^ 7 := Nat.pow_le_pow_right (by decide) h
  exact Nat.le_trans this (by decide)
set_option maxRecDepth 100000 in
theorem or_byte (w x : Nat) (hx : x < 256) : (w * 256) ||| x = w * 256 + x := by
  have := Nat.two_pow_add_eq_or_of_lt (i := 8) hx w
  rw [Nat.mul_comm] at this
  exact this.symm
set_option maxRecDepth 100000 in
theorem getN_nil : getN [] = 0 := rfl
set_option maxRecDepth 100000 in
theorem getStep (w x : Nat) (h1 : bits .or .u64 ((w * 256 : Nat) : Int) (x : Int) = ((w * 256 ||| x : Nat) : Int)) (h2 : (w * 256) ||| x = w * 256 + x) : bits .or .u64 ((w : Int) * 256) (x : Int) = ((w * 256 + x : Nat) : Int) := by
  rw [← h2, ← h1]; simp
set_option maxRecDepth 100000 in
theorem getStep2 (w x : Nat) : (w : Int) * 256 + x = ((w * 256 + x : Nat) : Int) := by simp
attribute [local irreducible] getN
set_option maxRecDepth 100000 in
set_option maxHeartbeats 400000 in
theorem w_get (s : Option Addr) (cap : Nat) (l : List Nat) (w : World) (hs : SlN .u8 w s l) (hl : ∀ x ∈ l, x < 256) (hn : l.length ≤ cap) (hc : cap ≤ 9223372036854775807) :
    Calls Try.prog 86 #[.slice s l.length cap] w fun e w' => e = .returned (.int .u64 (getN (l.take 8) : Nat)) ∧ w = w' := by
  have hsh := hide hs
  have hlh := hide hl
  clear hs hl
  by_cases h8 : l.length ≤ 8
  · have ht := hide (List.take_of_length_le h8)
    go_enter Try.func86, Try.ntmps86
    go_wp2_with fail
    go_loop [3, 12] (fun v i => ∃ k : Nat, k ≤ l.length ∧ i = .int .i64 k ∧ v = .int .u64 (getN (l.take k) : Nat)) (fun _ i => l.length - (intOf i).toNat)
    case atStart => exact ⟨0, by omega, rfl, by rw [List.take_zero, getN_nil]; rfl⟩
    case round =>
      obtain ⟨k, hk, rfl, rfl⟩ := hrel
      by_cases hlt : k < l.length
      · obtain ⟨x, hx⟩ : ∃ x, l[k]? = some x := ⟨_, List.getElem?_eq_getElem (by omega)⟩
        obtain ⟨b, off, rfl, hc⟩ := hsh.out k x hx
        have hx2 := hlh.out x (List.mem_of_getElem? hx)
        have hx1 := Nat.lt_of_lt_of_le (getN_lt l hlh.out k) (pow256 k (by omega))
        have he := hide (getN_take l k x hx)
        have ho := hide (or_byte (getN (l.take k)) x hx2)
        have hu := hide (u64_or_nat (getN (l.take k) * 256) x (by omega) (by omega))
        clear hx hsh hlh
        go_wp2_with fail
        rw [getStep _ _ hu.out ho.out, ← he.out]
        go_round
        case rel => exact ⟨k + 1, by omega, by go_num, rfl⟩
        case measure => simp [intOf]; omega
      · obtain rfl : k = l.length := by omega
        go_wp2_with fail
        go_ret
        exact ⟨ret_int (by rw [ht.out]), rfl⟩
  · have h8' : 8 < l.length := by omega
    go_enter Try.func86, Try.ntmps86
    go_wp2_with fail
    go_loop [3, 12] (fun v i => ∃ k : Nat, k ≤ 8 ∧ i = .int .i64 k ∧ v = .int .u64 (getN (l.take k) : Nat)) (fun _ i => 8 - (intOf i).toNat)
    case atStart => exact ⟨0, by omega, rfl, by rw [List.take_zero, getN_nil]; rfl⟩
    case round =>
      obtain ⟨k, hk, rfl, rfl⟩ := hrel
      by_cases hlt : k < 8
      · obtain ⟨x, hx⟩ : ∃ x, l[k]? = some x := ⟨_, List.getElem?_eq_getElem (by omega)⟩
        obtain ⟨b, off, rfl, hc⟩ := hsh.out k x hx
        have hx2 := hlh.out x (List.mem_of_getElem? hx)
        have hx1 := Nat.lt_of_lt_of_le (getN_lt l hlh.out k) (pow256 k (by omega))
        have he := hide (getN_take l k x hx)
        have ho := hide (or_byte (getN (l.take k)) x hx2)
        have hu := hide (u64_or_nat (getN (l.take k) * 256) x (by omega) (by omega))
        clear hx hsh hlh
        go_wp2_with fail
        rw [getStep _ _ hu.out ho.out, ← he.out]
        go_round
        case rel => exact ⟨k + 1, by omega, by go_num, rfl⟩
        case measure => simp [intOf]; omega
      · obtain rfl : k = 8 := by omega
        go_wp2_with fail
        go_ret
        exact ⟨rfl, rfl⟩

end Go.Proofs.Ytmfagdbocidfjaa

/- What was sealed is opened. Conditions: what the blocks hold. -/
namespace Go.Proofs.Ytmfagdbocidfjaa
open Go.RowKit
def rb4 (s : Nat) : List Nat := [s / 16777216, s / 65536 % 256, s / 256 % 256, s % 256]
set_option maxRecDepth 100000 in
theorem rb4_get (s : Nat) (h : s < 4294967296) : getN ((rb4 s).take 8) = s := by
  unfold rb4
  simp [getN]
  omega
end Go.Proofs.Ytmfagdbocidfjaa

/- What was sealed is opened. Conditions: what the blocks hold. -/
namespace Go.Proofs.Ytmfagdbocidfjaa
open Go.RowKit
set_option maxRecDepth 100000 in
theorem mod16 (x : Int) (h : 0 ≤ x) : 0 ≤ x % 256 ∧ x % 256 < 256 := by omega
set_option maxRecDepth 100000 in
theorem rb4_lt (s : Nat) (h : s < 4294967296) : ∀ x ∈ rb4 s, x < 256 := by
  unfold rb4
  simp
  omega
/-- what opening gives: a copy of the bytes ahead of the sum -/
def OpenPost (W : World) (l : List Int) (e : Ending) (W' : World) : Prop := ∃ v', e = .returned (.tuple #[v', .int .i64 0]) ∧ VAt W' W.heap.size 5 1 v' l.length (bytesOf l) ∧ Below W.heap.size W W'
attribute [local irreducible] sumF
set_option maxRecDepth 100000 in
set_option maxHeartbeats 4000000 in
theorem c_open (t : Nat) (T : Nat → Int) (b off cap lo s n : Nat) (l : List Int) (w : World) (h : TbAt w t T) (hs : sumF T l = (s : Int)) (hs4 : s < 4294967296) (hl : VAt w lo 5 1 (.slice (some ⟨b, off, none⟩) (n + 4) cap) (n + 4) (bytesOf (l ++ le4 s))) (hln : l.length = n) (hn : n ≤ 2000) :
    Calls Try.prog 54 #[.pointer (some ⟨t, 0, none⟩), .slice (some ⟨b, off, none⟩) (n + 4) cap] w (OpenPost w l) := by
  obtain ⟨a1, c1, e1, hcap, hcm⟩ := hl.form
  cases e1
  have hcm2 : cap ≤ 9223372036854775807 := by unfold maxLen at hcm; omega
  have hcell : ∀ j x, (l ++ le4 s)[j]? = some x → w.cell? ⟨b, off + j, none⟩ = some (.int .u8 x) := fun j x hj => by
    have hg : (bytesOf (l ++ le4 s))[j]? = some (.int .u8 x) := by unfold bytesOf; rw [List.getElem?_map, hj]; rfl
    exact hl.cells rfl j _ hg
  have hc0 : w.cell? ⟨b, off + n, none⟩ = some (.int .u8 ((s % 256 : Nat) : Int)) := hcell n _ (by rw [List.getElem?_append_right (by omega), hln, Nat.sub_self]; rfl)
  have hc1 : w.cell? ⟨b, off + n + 1, none⟩ = some (.int .u8 ((s / 256 % 256 : Nat) : Int)) := hcell (n + 1) _ (by rw [List.getElem?_append_right (by omega), show n + 1 - l.length = 1 by omega]; rfl)
  have hc2 : w.cell? ⟨b, off + n + 2, none⟩ = some (.int .u8 ((s / 65536 % 256 : Nat) : Int)) := hcell (n + 2) _ (by rw [List.getElem?_append_right (by omega), show n + 2 - l.length = 2 by omega]; rfl)
  have hc3 : w.cell? ⟨b, off + n + 3, none⟩ = some (.int .u8 ((s / 16777216 : Nat) : Int)) := hcell (n + 3) _ (by rw [List.getElem?_append_right (by omega), show n + 3 - l.length = 3 by omega]; rfl)
  have hlc : Hid (∀ j x, l[j]? = some x → ∃ b' off', some (⟨b, off, none⟩ : Addr) = some ⟨b', off', none⟩ ∧ w.cell? ⟨b', off' + j, none⟩ = some (.int .u8 x)) := hide (fun j x hj => ⟨b, off, rfl, hcell j x (by rw [List.getElem?_append_left (List.getElem?_eq_some_iff.1 hj).1]; exact hj)⟩)
  have hbw : b < w.heap.size := cell_block_lt hc0
  have hth := Lib.hid h
  have hsh := Lib.hid hs
  have hs4h := Lib.hid hs4
  obtain ⟨x0, hx0⟩ : ∃ x0 : Nat, x0 = s % 256 := ⟨_, rfl⟩
  obtain ⟨x1, hx1⟩ : ∃ x1 : Nat, x1 = s / 256 % 256 := ⟨_, rfl⟩
  obtain ⟨x2, hx2⟩ : ∃ x2 : Nat, x2 = s / 65536 % 256 := ⟨_, rfl⟩
  obtain ⟨x3, hx3⟩ : ∃ x3 : Nat, x3 = s / 16777216 := ⟨_, rfl⟩
  have hrb : Hid (rb4 s = [x3, x2, x1, x0]) := hide (by rw [hx0, hx1, hx2, hx3]; rfl)
  rw [← hx0] at hc0
  rw [← hx1] at hc1
  rw [← hx2] at hc2
  rw [← hx3] at hc3
  clear hx0 hx1 hx2 hx3 hs hs4 h
  have hw4 : IntKind.i64.wrap (((n + 4 : Nat) : Int) - 4) = (n : Int) := by rw [show ((n + 4 : Nat) : Int) - 4 = (n : Int) by omega]; exact IntWalk.i64_in _ (by omega)
  have hlnh := Lib.hid hln
  have hlh := Lib.hid hl
  clear hl hcell hln
  have d0 : decide ((n : Int) < 0) = false := decide_eq_false (by omega)
  go_enter Try.func54, Try.ntmps54
  go_upto_region 5 with (fail)
  have hS : Hid (∀ y, Below w.heap.size w y → (fun y : World => y.cell? ⟨b, off + n, none⟩ = some (.int .u8 (x0 : Nat)) ∧ y.cell? ⟨b, off + n + 1, none⟩ = some (.int .u8 (x1 : Nat)) ∧ y.cell? ⟨b, off + n + 2, none⟩ = some (.int .u8 (x2 : Nat)) ∧ y.cell? ⟨b, off + n + 3, none⟩ = some (.int .u8 (x3 : Nat))) y) := hide (fun y hy =>
    ⟨(hy.cell hbw).trans hc0, (hy.cell hbw).trans hc1, (hy.cell hbw).trans hc2, (hy.cell hbw).trans hc3⟩)
  have hD : Hid (Below w.heap.size w w.drew) := hide (below_drewN (Below.refl _ _) 1)
  have e0 : (w.drew).cell? ⟨b, off + n, none⟩ = some (.int .u8 (x0 : Nat)) := hc0
  have hHeld := hS.out _ hD.out
  have hnc : (n : Int) ≤ (cap : Int) := by omega
  have hnc2 : n ≤ cap := by omega
  refine h_begin 21 (fun y : World => y.cell? ⟨b, off + n, none⟩ = some (.int .u8 (x0 : Nat)) ∧ y.cell? ⟨b, off + n + 1, none⟩ = some (.int .u8 (x1 : Nat)) ∧ y.cell? ⟨b, off + n + 2, none⟩ = some (.int .u8 (x2 : Nat)) ∧ y.cell? ⟨b, off + n + 3, none⟩ = some (.int .u8 (x3 : Nat))) rfl (by kernel_rfl) hHeld ?_
  first
    | (refine h_run (i := 0) (v := ?_) hHeld rfl (by kernel_rfl) (by kernel_rfl) (by kernel_rfl) ?_ ?_ ?_
       rotate_left
       · rfl
       · (intro x hSx; (try dsimp only at hSx); go_simp <;> with_reducible rfl)
       simp only [Act.put, List.setIfInBounds_toArray, List.set_cons_zero, List.set_cons_succ])
    | (refine h_skip (i := 0) hHeld rfl (by kernel_rfl) (by kernel_rfl) (by kernel_rfl) ?_ ?_
       · rfl
       simp only [Act.put, List.setIfInBounds_toArray, List.set_cons_zero, List.set_cons_succ])
  first
    | (refine h_run (i := 1) (v := ?_) hHeld rfl (by kernel_rfl) (by kernel_rfl) (by kernel_rfl) ?_ ?_ ?_
       rotate_left
       · rfl
       · (intro x hSx; (try dsimp only at hSx); go_simp <;> with_reducible rfl)
       simp only [Act.put, List.setIfInBounds_toArray, List.set_cons_zero, List.set_cons_succ])
    | (refine h_skip (i := 1) hHeld rfl (by kernel_rfl) (by kernel_rfl) (by kernel_rfl) ?_ ?_
       · rfl
       simp only [Act.put, List.setIfInBounds_toArray, List.set_cons_zero, List.set_cons_succ])
  first
    | (refine h_run (i := 2) (v := ?_) hHeld rfl (by kernel_rfl) (by kernel_rfl) (by kernel_rfl) ?_ ?_ ?_
       rotate_left
       · rfl
       · (intro x hSx; (try dsimp only at hSx); go_simp <;> with_reducible rfl)
       simp only [Act.put, List.setIfInBounds_toArray, List.set_cons_zero, List.set_cons_succ])
    | (refine h_skip (i := 2) hHeld rfl (by kernel_rfl) (by kernel_rfl) (by kernel_rfl) ?_ ?_
       · rfl
       simp only [Act.put, List.setIfInBounds_toArray, List.set_cons_zero, List.set_cons_succ])
  first
    | (refine h_run (i := 3) (v := ?_) hHeld rfl (by kernel_rfl) (by kernel_rfl) (by kernel_rfl) ?_ ?_ ?_
       rotate_left
       · rfl
       · (intro x hSx; (try dsimp only at hSx); go_simp <;> with_reducible rfl)
       simp only [Act.put, List.setIfInBounds_toArray, List.set_cons_zero, List.set_cons_succ])
    | (refine h_skip (i := 3) hHeld rfl (by kernel_rfl) (by kernel_rfl) (by kernel_rfl) ?_ ?_
       · rfl
       simp only [Act.put, List.setIfInBounds_toArray, List.set_cons_zero, List.set_cons_succ])
  first
    | (refine h_run (i := 4) (v := ?_) hHeld rfl (by kernel_rfl) (by kernel_rfl) (by kernel_rfl) ?_ ?_ ?_
       rotate_left
       · rfl
       · (intro x hSx; (try dsimp only at hSx); go_simp <;> with_reducible rfl)
       simp only [Act.put, List.setIfInBounds_toArray, List.set_cons_zero, List.set_cons_succ])
    | (refine h_skip (i := 4) hHeld rfl (by kernel_rfl) (by kernel_rfl) (by kernel_rfl) ?_ ?_
       · rfl
       simp only [Act.put, List.setIfInBounds_toArray, List.set_cons_zero, List.set_cons_succ])
  first
    | (refine h_run (i := 5) (v := ?_) hHeld rfl (by kernel_rfl) (by kernel_rfl) (by kernel_rfl) ?_ ?_ ?_
       rotate_left
       · rfl
       · (intro x hSx; (try dsimp only at hSx); go_simp <;> with_reducible rfl)
       simp only [Act.put, List.setIfInBounds_toArray, List.set_cons_zero, List.set_cons_succ])
    | (refine h_skip (i := 5) hHeld rfl (by kernel_rfl) (by kernel_rfl) (by kernel_rfl) ?_ ?_
       · rfl
       simp only [Act.put, List.setIfInBounds_toArray, List.set_cons_zero, List.set_cons_succ])
  first
    | (refine h_run (i := 6) (v := ?_) hHeld rfl (by kernel_rfl) (by kernel_rfl) (by kernel_rfl) ?_ ?_ ?_
       rotate_left
       · rfl
       · (intro x hSx; (try dsimp only at hSx); go_simp <;> with_reducible rfl)
       simp only [Act.put, List.setIfInBounds_toArray, List.set_cons_zero, List.set_cons_succ])
    | (refine h_skip (i := 6) hHeld rfl (by kernel_rfl) (by kernel_rfl) (by kernel_rfl) ?_ ?_
       · rfl
       simp only [Act.put, List.setIfInBounds_toArray, List.set_cons_zero, List.set_cons_succ])
  first
    | (refine h_run (i := 7) (v := ?_) hHeld rfl (by kernel_rfl) (by kernel_rfl) (by kernel_rfl) ?_ ?_ ?_
       rotate_left
       · rfl
       · (intro x hSx; (try dsimp only at hSx); go_simp <;> with_reducible rfl)
       simp only [Act.put, List.setIfInBounds_toArray, List.set_cons_zero, List.set_cons_succ])
    | (refine h_skip (i := 7) hHeld rfl (by kernel_rfl) (by kernel_rfl) (by kernel_rfl) ?_ ?_
       · rfl
       simp only [Act.put, List.setIfInBounds_toArray, List.set_cons_zero, List.set_cons_succ])
  first
    | (refine h_run (i := 8) (v := ?_) hHeld rfl (by kernel_rfl) (by kernel_rfl) (by kernel_rfl) ?_ ?_ ?_
       rotate_left
       · rfl
       · (intro x hSx; (try dsimp only at hSx); go_simp <;> with_reducible rfl)
       simp only [Act.put, List.setIfInBounds_toArray, List.set_cons_zero, List.set_cons_succ])
    | (refine h_skip (i := 8) hHeld rfl (by kernel_rfl) (by kernel_rfl) (by kernel_rfl) ?_ ?_
       · rfl
       simp only [Act.put, List.setIfInBounds_toArray, List.set_cons_zero, List.set_cons_succ])
  first
    | (refine h_run (i := 9) (v := ?_) hHeld rfl (by kernel_rfl) (by kernel_rfl) (by kernel_rfl) ?_ ?_ ?_
       rotate_left
       · rfl
       · (intro x hSx; (try dsimp only at hSx); go_simp <;> with_reducible rfl)
       simp only [Act.put, List.setIfInBounds_toArray, List.set_cons_zero, List.set_cons_succ])
    | (refine h_skip (i := 9) hHeld rfl (by kernel_rfl) (by kernel_rfl) (by kernel_rfl) ?_ ?_
       · rfl
       simp only [Act.put, List.setIfInBounds_toArray, List.set_cons_zero, List.set_cons_succ])
  first
    | (refine h_run (i := 10) (v := ?_) hHeld rfl (by kernel_rfl) (by kernel_rfl) (by kernel_rfl) ?_ ?_ ?_
       rotate_left
       · rfl
       · (intro x hSx; (try dsimp only at hSx); go_simp <;> with_reducible rfl)
       simp only [Act.put, List.setIfInBounds_toArray, List.set_cons_zero, List.set_cons_succ])
    | (refine h_skip (i := 10) hHeld rfl (by kernel_rfl) (by kernel_rfl) (by kernel_rfl) ?_ ?_
       · rfl
       simp only [Act.put, List.setIfInBounds_toArray, List.set_cons_zero, List.set_cons_succ])
  first
    | (refine h_run (i := 11) (v := ?_) hHeld rfl (by kernel_rfl) (by kernel_rfl) (by kernel_rfl) ?_ ?_ ?_
       rotate_left
       · rfl
       · (intro x hSx; (try dsimp only at hSx); go_simp <;> with_reducible rfl)
       simp only [Act.put, List.setIfInBounds_toArray, List.set_cons_zero, List.set_cons_succ])
    | (refine h_skip (i := 11) hHeld rfl (by kernel_rfl) (by kernel_rfl) (by kernel_rfl) ?_ ?_
       · rfl
       simp only [Act.put, List.setIfInBounds_toArray, List.set_cons_zero, List.set_cons_succ])
  first
    | (refine h_run (i := 15) (v := ?_) hHeld rfl (by kernel_rfl) (by kernel_rfl) (by kernel_rfl) ?_ ?_ ?_
       rotate_left
       · rfl
       · (intro x hSx; (try dsimp only at hSx); go_simp <;> with_reducible rfl)
       simp only [Act.put, List.setIfInBounds_toArray, List.set_cons_zero, List.set_cons_succ])
    | (refine h_skip (i := 15) hHeld rfl (by kernel_rfl) (by kernel_rfl) (by kernel_rfl) ?_ ?_
       · rfl
       simp only [Act.put, List.setIfInBounds_toArray, List.set_cons_zero, List.set_cons_succ])
  first
    | (refine h_run (i := 16) (v := ?_) hHeld rfl (by kernel_rfl) (by kernel_rfl) (by kernel_rfl) ?_ ?_ ?_
       rotate_left
       · rfl
       · (intro x hSx; (try dsimp only at hSx); go_simp <;> with_reducible rfl)
       simp only [Act.put, List.setIfInBounds_toArray, List.set_cons_zero, List.set_cons_succ])
    | (refine h_skip (i := 16) hHeld rfl (by kernel_rfl) (by kernel_rfl) (by kernel_rfl) ?_ ?_
       · rfl
       simp only [Act.put, List.setIfInBounds_toArray, List.set_cons_zero, List.set_cons_succ])
  first
    | (refine h_run (i := 17) (v := ?_) hHeld rfl (by kernel_rfl) (by kernel_rfl) (by kernel_rfl) ?_ ?_ ?_
       rotate_left
       · rfl
       · (intro x hSx; (try dsimp only at hSx); go_simp <;> with_reducible rfl)
       simp only [Act.put, List.setIfInBounds_toArray, List.set_cons_zero, List.set_cons_succ])
    | (refine h_skip (i := 17) hHeld rfl (by kernel_rfl) (by kernel_rfl) (by kernel_rfl) ?_ ?_
       · rfl
       simp only [Act.put, List.setIfInBounds_toArray, List.set_cons_zero, List.set_cons_succ])
  first
    | (refine h_run (i := 18) (v := ?_) hHeld rfl (by kernel_rfl) (by kernel_rfl) (by kernel_rfl) ?_ ?_ ?_
       rotate_left
       · rfl
       · (intro x hSx; (try dsimp only at hSx); go_simp <;> with_reducible rfl)
       simp only [Act.put, List.setIfInBounds_toArray, List.set_cons_zero, List.set_cons_succ])
    | (refine h_skip (i := 18) hHeld rfl (by kernel_rfl) (by kernel_rfl) (by kernel_rfl) ?_ ?_
       · rfl
       simp only [Act.put, List.setIfInBounds_toArray, List.set_cons_zero, List.set_cons_succ])
  clear hHeld
  have hBa : Hid (Below w.heap.size w (w.drew.alloc (.cells #[.int .u8 (x3 : Nat), .int .u8 (x2 : Nat), .int .u8 (x1 : Nat), .int .u8 (x0 : Nat)] 5))) := hide (hD.out.alloc hD.out.size _)
  have hwA : Hid ((w.drew.alloc (.cells #[.int .u8 (x3 : Nat), .int .u8 (x2 : Nat), .int .u8 (x1 : Nat), .int .u8 (x0 : Nat)] 5)).heap[w.drew.heap.size]? = some (.cells #[.int .u8 (x3 : Nat), .int .u8 (x2 : Nat), .int .u8 (x1 : Nat), .int .u8 (x0 : Nat)] 5 (0, 0))) := hide (Array.getElem?_push_size (xs := w.drew.heap))
  refine h_value (i := 12) (v := .slice (some ⟨w.drew.heap.size, 0, none⟩) 4 4) (w' := w.drew.alloc (.cells #[.int .u8 (x3 : Nat), .int .u8 (x2 : Nat), .int .u8 (x1 : Nat), .int .u8 (x0 : Nat)] 5)) (fun y : World => y.cell? ⟨b, off + n, none⟩ = some (.int .u8 (x0 : Nat)) ∧ y.cell? ⟨b, off + n + 1, none⟩ = some (.int .u8 (x1 : Nat)) ∧ y.cell? ⟨b, off + n + 2, none⟩ = some (.int .u8 (x2 : Nat)) ∧ y.cell? ⟨b, off + n + 3, none⟩ = some (.int .u8 (x3 : Nat))) (fun _ h => h) rfl (by kernel_rfl) rfl ?_ (hS.out _ hBa.out) ?_
  · go_simp <;> with_reducible rfl
  simp only [Act.put, List.setIfInBounds_toArray, List.set_cons_zero, List.set_cons_succ]
  have hget := Lib.hid (w_get (some ⟨w.drew.heap.size, 0, none⟩) 4 [x3, x2, x1, x0] (w.drew.alloc (.cells #[.int .u8 (x3 : Nat), .int .u8 (x2 : Nat), .int .u8 (x1 : Nat), .int .u8 (x0 : Nat)] 5)) (SlN.lit .u8 [x3, x2, x1, x0] hwA.out rfl) (by rw [← hrb.out]; exact rb4_lt s hs4h.out) (Nat.le_refl _) (by omega))
  rw [← hrb.out, rb4_get s hs4h.out, hrb.out] at hget
  clear hwA
  generalize World.alloc w.drew _ = w5 at *
  generalize w.drew.heap.size = g5 at *
  refine h_call (i := 13) (fun y : World => y.cell? ⟨b, off + n, none⟩ = some (.int .u8 (x0 : Nat)) ∧ y.cell? ⟨b, off + n + 1, none⟩ = some (.int .u8 (x1 : Nat)) ∧ y.cell? ⟨b, off + n + 2, none⟩ = some (.int .u8 (x2 : Nat)) ∧ y.cell? ⟨b, off + n + 3, none⟩ = some (.int .u8 (x3 : Nat))) (fun _ h => h) hget.out rfl (by kernel_rfl) rfl ?_ ?_
  · go_simp <;> with_reducible rfl
  rintro _ w6 ⟨rfl, hw6⟩
  subst hw6
  refine ⟨_, rfl, hS.out _ hBa.out, ?_⟩
  try simp only [Act.put, List.setIfInBounds_toArray, List.set_cons_zero, List.set_cons_succ]
  have hHeld := hS.out _ hBa.out
  have hwu : IntKind.u32.wrap (s : Int) = (s : Int) := IntWalk.u32_in _ (by have := hs4h.out; omega)
  first
    | (refine h_run (i := 14) (v := ?_) hHeld rfl (by kernel_rfl) (by kernel_rfl) (by kernel_rfl) ?_ ?_ ?_
       rotate_left
       · rfl
       · (intro x hSx; (try dsimp only at hSx); go_simp <;> with_reducible rfl)
       simp only [Act.put, List.setIfInBounds_toArray, List.set_cons_zero, List.set_cons_succ])
    | (refine h_skip (i := 14) hHeld rfl (by kernel_rfl) (by kernel_rfl) (by kernel_rfl) ?_ ?_
       · rfl
       simp only [Act.put, List.setIfInBounds_toArray, List.set_cons_zero, List.set_cons_succ])
  clear hHeld
  have hsum := Lib.hid (c_sum t T (some ⟨b, off, none⟩) cap l w5 ((hBa.out.block t (Array.getElem?_eq_some_iff.1 hth.out).1).trans hth.out) (fun j x hj => by
    obtain ⟨b', off', h1, h2⟩ := hlc.out j x hj
    exact ⟨b', off', h1, (hBa.out.cell (cell_block_lt h2)).trans h2⟩) (by rw [hlnh.out]; omega))
  rw [hsh.out, hlnh.out] at hsum
  refine h_call (i := 19) (fun y : World => y.cell? ⟨b, off + n, none⟩ = some (.int .u8 (x0 : Nat)) ∧ y.cell? ⟨b, off + n + 1, none⟩ = some (.int .u8 (x1 : Nat)) ∧ y.cell? ⟨b, off + n + 2, none⟩ = some (.int .u8 (x2 : Nat)) ∧ y.cell? ⟨b, off + n + 3, none⟩ = some (.int .u8 (x3 : Nat))) (fun _ h => h) hsum.out rfl (by kernel_rfl) rfl ?_ ?_
  · go_simp <;> with_reducible rfl
  rintro _ w6 ⟨rfl, hw6⟩
  subst hw6
  refine ⟨_, rfl, hS.out _ hBa.out, ?_⟩
  try simp only [Act.put, List.setIfInBounds_toArray, List.set_cons_zero, List.set_cons_succ]
  have hHeld := hS.out _ hBa.out
  first
    | (refine h_run (i := 20) (v := ?_) hHeld rfl (by kernel_rfl) (by kernel_rfl) (by kernel_rfl) ?_ ?_ ?_
       rotate_left
       · rfl
       · (intro x hSx; (try dsimp only at hSx); go_simp <;> with_reducible rfl)
       simp only [Act.put, List.setIfInBounds_toArray, List.set_cons_zero, List.set_cons_succ])
    | (refine h_skip (i := 20) hHeld rfl (by kernel_rfl) (by kernel_rfl) (by kernel_rfl) ?_ ?_
       · rfl
       simp only [Act.put, List.setIfInBounds_toArray, List.set_cons_zero, List.set_cons_succ])
  clear hHeld
  refine h_done (by kernel_rfl) ?_
  try simp only [Act.put, List.setIfInBounds_toArray, List.set_cons_zero, List.set_cons_succ]
  have hl5 : VAt w5 lo 5 1 (.slice (some ⟨b, off, none⟩) (n + 4) cap) (n + 4) (bytesOf (l ++ le4 s)) := hlh.out.below hBa.out
  have hB7 : Below w5.heap.size w5 (w5.alloc (.cells #[] 5)) := (Below.refl _ _).alloc (Nat.le_refl _) _
  have hW : Hid (Below w.heap.size w (w5.alloc (.cells #[] 5))) := hide (hBa.out.alloc hBa.out.size _)
  have hl7 := hl5.below hB7
  have hv0 : VAt (w5.alloc (.cells #[] 5)) w.heap.size 5 1 (.slice (some ⟨w5.heap.size, 0, none⟩) 0 0) 0 [] := ⟨rfl, by simp, .inr ⟨w5.heap.size, 0, 0, #[], rfl, hBa.out.size, Array.getElem?_push_size (xs := w5.heap), Nat.le_refl _, by unfold maxLen; omega, fun h => absurd h (by omega), fun j u hj => by simp at hj⟩⟩
  obtain ⟨v', W', hr, hv, hg, hf, _⟩ := v_app (P := Try.prog) (S := 71) (T := 5) Try.underlying71 info_u8 rfl (by decide) (by decide) hv0 hW.out.size ⟨b, off, none⟩ n cap (bytesOf l) (by rw [bytesOf_length, hlnh.out]; omega) (fun j u hj => by
    rw [Addr.add_lit]
    refine hl7.cells rfl j u ?_
    rw [bytesOf_app, List.getElem?_append_left (List.getElem?_eq_some_iff.1 hj).1]
    exact hj) (bytesOf_one _) (by omega) 71
  have hrh := Lib.hid hr
  have hend : Hid (OpenPost w l (.returned (.tuple #[v', .int .i64 0])) W') := hide ⟨v', rfl, by rw [hlnh.out, show bytesOf l = [] ++ bytesOf l from rfl, show n = 0 + n by omega]; exact hv, below_grown hW.out (Nat.le_refl _) hg (fun p hp => by cases hp; exact hBa.out.size)⟩
  clear hr hv hg hf hB7 hW hl5 hl7 hv0
  have hbne : b ≠ w5.heap.size := by have := hBa.out.size; omega
  clear hc0 hc1 hc2 hc3 e0
  go_wp2_with (at_builtin; refine wpList_app_runV rfl (.tmp 37) (.tmp 40) _ _ rfl rfl rfl hrh.out ?_)
  go_ret2
  exact hend.out
end Go.Proofs.Ytmfagdbocidfjaa
