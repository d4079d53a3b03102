/- Get of package word and of the document's answer: the word of up to eight bytes. Conditions: the slice reads as the list named, of bytes. -/
import Derived.Test.YtgfokemjoggebaaWord
namespace Go.Proofs.Ytgfokemjoggebaa
open Go.RowKit
/-- the word of bytes, the highest first -/
def getN (l : List Nat) : Nat := l.foldl (fun w b => w * 256 + b) 0
theorem getN_take (l : List Nat) (k x : Nat) (h : l[k]? = some x) : getN (l.take (k + 1)) = getN (l.take k) * 256 + x := by
  rw [List.take_add_one, h]; simp [getN]
theorem getN_lt (l : List Nat) (h : ∀ x ∈ l, x < 256) (k : Nat) : getN (l.take k) < 256 ^ k := by
  induction k with
  | zero => simp [getN]
  | succ k ih =>
    rcases hx : l[k]? with _ | x
    · rw [List.take_add_one, hx]
      simp only [Option.toList, List.append_nil]
      exact Nat.lt_of_lt_of_le ih (Nat.pow_le_pow_right (by decide) (by omega))
    · rw [getN_take l k x hx, Nat.pow_succ]
      have := h x (List.mem_of_getElem? hx)
      omega
theorem pow256 (k : Nat) (h : k ≤ 7) : 256 ^ k ≤ 72057594037927936 := by
  have : 256 ^ k ≤ 256 ^ 7 := Nat.pow_le_pow_right (by decide) h
  exact Nat.le_trans this (by decide)
theorem or_byte (w x : Nat) (hx : x < 256) : (w * 256) ||| x = w * 256 + x := by
  have := Nat.two_pow_add_eq_or_of_lt (i := 8) hx w
  rw [Nat.mul_comm] at this
  exact this.symm
theorem getN_nil : getN [] = 0 := rfl
theorem getStep (w x : Nat) (h1 : bits .or .u64 ((w * 256 : Nat) : Int) (x : Int) = ((w * 256 ||| x : Nat) : Int)) (h2 : (w * 256) ||| x = w * 256 + x) : bits .or .u64 ((w : Int) * 256) (x : Int) = ((w * 256 + x : Nat) : Int) := by
  rw [← h2, ← h1]; simp
theorem getStep2 (w x : Nat) : (w : Int) * 256 + x = ((w * 256 + x : Nat) : Int) := by simp
attribute [local irreducible] getN
set_option maxHeartbeats 400000 in
theorem w_get (s : Option Addr) (cap : Nat) (l : List Nat) (w : World) (hs : SlN .u8 w s l) (hl : ∀ x ∈ l, x < 256) (hn : l.length ≤ cap) (hc : cap ≤ 9223372036854775807) :
    Calls Try.prog 22 #[.slice s l.length cap] w fun e w' => e = .returned (.int .u64 (getN (l.take 8) : Nat)) ∧ w = w' := by
  have hsh := hide hs
  have hlh := hide hl
  clear hs hl
  by_cases h8 : l.length ≤ 8
  · have ht := hide (List.take_of_length_le h8)
    go_enter Try.func22, Try.ntmps22
    go_wp2_with fail
    go_loop [3, 12] (fun v i => ∃ k : Nat, k ≤ l.length ∧ i = .int .i64 k ∧ v = .int .u64 (getN (l.take k) : Nat)) (fun _ i => l.length - (intOf i).toNat)
    case atStart => exact ⟨0, by omega, rfl, by rw [List.take_zero, getN_nil]; rfl⟩
    case round =>
      obtain ⟨k, hk, rfl, rfl⟩ := hrel
      by_cases hlt : k < l.length
      · obtain ⟨x, hx⟩ : ∃ x, l[k]? = some x := ⟨_, List.getElem?_eq_getElem (by omega)⟩
        obtain ⟨b, off, rfl, hc⟩ := hsh.out k x hx
        have hx2 := hlh.out x (List.mem_of_getElem? hx)
        have hx1 := Nat.lt_of_lt_of_le (getN_lt l hlh.out k) (pow256 k (by omega))
        have he := hide (getN_take l k x hx)
        have ho := hide (or_byte (getN (l.take k)) x hx2)
        have hu := hide (u64_or_nat (getN (l.take k) * 256) x (by omega) (by omega))
        clear hx hsh hlh
        go_wp2_with fail
        rw [getStep _ _ hu.out ho.out, ← he.out]
        go_round
        case rel => exact ⟨k + 1, by omega, by go_num, rfl⟩
        case measure => simp [intOf]; omega
      · obtain rfl : k = l.length := by omega
        go_wp2_with fail
        go_ret
        exact ⟨ret_int (by rw [ht.out]), rfl⟩
  · have h8' : 8 < l.length := by omega
    go_enter Try.func22, Try.ntmps22
    go_wp2_with fail
    go_loop [3, 12] (fun v i => ∃ k : Nat, k ≤ 8 ∧ i = .int .i64 k ∧ v = .int .u64 (getN (l.take k) : Nat)) (fun _ i => 8 - (intOf i).toNat)
    case atStart => exact ⟨0, by omega, rfl, by rw [List.take_zero, getN_nil]; rfl⟩
    case round =>
      obtain ⟨k, hk, rfl, rfl⟩ := hrel
      by_cases hlt : k < 8
      · obtain ⟨x, hx⟩ : ∃ x, l[k]? = some x := ⟨_, List.getElem?_eq_getElem (by omega)⟩
        obtain ⟨b, off, rfl, hc⟩ := hsh.out k x hx
        have hx2 := hlh.out x (List.mem_of_getElem? hx)
        have hx1 := Nat.lt_of_lt_of_le (getN_lt l hlh.out k) (pow256 k (by omega))
        have he := hide (getN_take l k x hx)
        have ho := hide (or_byte (getN (l.take k)) x hx2)
        have hu := hide (u64_or_nat (getN (l.take k) * 256) x (by omega) (by omega))
        clear hx hsh hlh
        go_wp2_with fail
        rw [getStep _ _ hu.out ho.out, ← he.out]
        go_round
        case rel => exact ⟨k + 1, by omega, by go_num, rfl⟩
        case measure => simp [intOf]; omega
      · obtain rfl : k = 8 := by omega
        go_wp2_with fail
        go_ret
        exact ⟨rfl, rfl⟩

set_option maxHeartbeats 400000 in
theorem r_get (s : Option Addr) (cap : Nat) (l : List Nat) (w : World) (hs : SlN .u8 w s l) (hl : ∀ x ∈ l, x < 256) (hn : l.length ≤ cap) (hc : cap ≤ 9223372036854775807) :
    Calls Try.prog 23 #[.slice s l.length cap] w fun e w' => e = .returned (.int .u64 (getN (l.take 8) : Nat)) ∧ w = w' := by
  have hsh := hide hs
  have hlh := hide hl
  clear hs hl
  go_enter Try.func23, Try.ntmps23
  go_wp2_with fail
  go_loop [3, 4] (fun v i => ∃ k : Nat, k ≤ l.length ∧ k ≤ 8 ∧ i = .int .i64 k ∧ v = .int .u64 (getN (l.take k) : Nat)) (fun _ i => 8 - (intOf i).toNat)
  case atStart => exact ⟨0, by omega, by omega, rfl, by rw [List.take_zero, getN_nil]; rfl⟩
  case round =>
    obtain ⟨k, hk, hk8, rfl, rfl⟩ := hrel
    by_cases hlt : k < l.length
    · by_cases hl8 : k < 8
      · obtain ⟨x, hx⟩ : ∃ x, l[k]? = some x := ⟨_, List.getElem?_eq_getElem (by omega)⟩
        obtain ⟨b, off, rfl, hc⟩ := hsh.out k x hx
        have hx2 := hlh.out x (List.mem_of_getElem? hx)
        have hx1 := Nat.lt_of_lt_of_le (getN_lt l hlh.out k) (pow256 k (by omega))
        have he := hide (getN_take l k x hx)
        clear hx hsh hlh
        go_wp2_with fail
        rw [getStep2, ← he.out]
        go_round
        case rel => exact ⟨k + 1, by omega, by omega, by go_num, rfl⟩
        case measure => simp [intOf]; omega
      · obtain rfl : k = 8 := by omega
        go_wp2_with fail
        go_ret
        exact ⟨rfl, rfl⟩
    · obtain rfl : k = l.length := by omega
      have ht := hide (List.take_of_length_le hk8)
      go_wp2_with fail
      go_ret
      exact ⟨ret_int (by rw [ht.out]), rfl⟩
end Go.Proofs.Ytgfokemjoggebaa
