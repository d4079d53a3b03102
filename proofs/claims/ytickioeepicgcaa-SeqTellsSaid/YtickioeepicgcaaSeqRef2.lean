/- The document's Bits and Take of layer 8. Conditions: the counts are small. -/
import Derived.Test.YtickioeepicgcaaSeqRef
namespace Go.Proofs.Ytickioeepicgcaa
open Go.RowKit
attribute [local irreducible] behindZ bw goneM sqLost rkA bwD
theorem bw_eq (m : Nat → Bool) : bw m = bwD m 64 := by unfold bw; rfl
theorem bwD_bd (m : Nat → Bool) (d : Nat) (h : d ≤ 63) : ((bwD m d : Nat) : Int) < 9223372036854775808 := by
  have h1 := bwD_lt m d
  have h2 : 2 ^ d ≤ 2 ^ 63 := Nat.pow_le_pow_right (by omega) h
  have h3 : bwD m d < 9223372036854775808 := Nat.lt_of_lt_of_le h1 h2
  omega
set_option maxHeartbeats 1000000 in
theorem r_bits (s : SqS) (w : World) :
    Calls Try.prog 19 #[.agg (rkA s)] w fun e w' => e = .returned (.int .u64 (bw s.m : Nat)) ∧ Below w.heap.size w w' := by
  have hb0 := last_block0 w (.cells (rkA s) 30) w.heap.size rfl
  have hbl : Below w.heap.size w (w.alloc (.cells (rkA s) 30)) := (Below.refl _ _).alloc (Nat.le_refl _) _
  go_enter Try.func19, Try.ntmps19
  go_wp2_with fail
  go_loopw [3, 4] (fun v i wr => ∃ k : Nat, k ≤ 64 ∧ i = .int .i64 ((k : Int) - 1) ∧ v = .int .u64 (bwD s.m (64 - k) : Nat) ∧ wr = w.alloc (.cells (rkA s) 30)) (fun _ i _ => (intOf i + 1).toNat)
  case atStart => exact ⟨64, by omega, rfl, by rw [Nat.sub_self, bwD_0]; rfl, rfl⟩
  case round =>
    obtain ⟨k, hk, rfl, rfl, rfl⟩ := hrel
    cases k with
    | zero =>
      have he := bw_eq s.m
      go_wp2_with fail
      go_ret
      exact ⟨ret_int (by rw [he]), hbl⟩
    | succ t =>
      have ht : (((t + 1 : Nat) : Int) - 1) = (t : Int) := by omega
      rw [ht]
      have hd : 64 - t = (63 - t) + 1 := by omega
      have hbd := bwD_bd s.m (63 - t) (by omega)
      have e63 : 63 - (63 - t) = t := by omega
      have hct : (w.alloc (.cells (rkA s) 30)).cell? ⟨w.heap.size, 2 + t, none⟩ = some (.bool (s.m t)) := by rw [cell_of_block hb0]; exact rkA_m s t (by omega)
      cases hm : s.m t
      · rw [hm] at hct
        have hn := hide (bwD_no s.m (63 - t) (by rw [e63]; exact hm))
        clear hm
        go_wp2_with fail
        go_roundw
        case rel => exact ⟨t, by omega, by go_num, by rw [hd, hn.out]; rfl, trivial⟩
        case measure => simp [intOf]
      · rw [hm] at hct
        have hn := hide (bwD_yes s.m (63 - t) (by rw [e63]; exact hm))
        clear hm
        go_wp2_with fail
        go_roundw
        case rel => exact ⟨t, by omega, by go_num, by rw [hd, hn.out]; rfl, trivial⟩
        case measure => simp [intOf]
end Go.Proofs.Ytickioeepicgcaa
