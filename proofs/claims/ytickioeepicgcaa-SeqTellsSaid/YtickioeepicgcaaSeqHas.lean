/- The contracts of package seq's Has and Holes, and the law's awake. Conditions: the state lies at the pointer; its counts are small. -/
import Derived.Test.YtickioeepicgcaaSeqLaw
namespace Go.Proofs.Ytickioeepicgcaa
open Go.RowKit
attribute [local irreducible] behindZ bw goneM sqLost
/-- has a number come, as far as that is remembered? -/
def sqHas (s : SqS) (n : Int) : Bool := s.any && (decide (behindZ n s.top ≤ 0) && (decide (-64 < behindZ n s.top) && s.m (-(behindZ n s.top)).toNat))
def HasPost (W : World) (v : Value) (e : Ending) (W' : World) : Prop := e = .returned v ∧ ∃ k, W' = W.drewN k
set_option maxHeartbeats 1000000 in
theorem s_has_no (p : Nat) (s : SqS) (n : Int) (w : World) (hs : SqAt w p s) (h : s.any = false ∨ 0 < behindZ n s.top ∨ behindZ n s.top ≤ -64) :
    Calls Try.prog 9 #[.pointer (some ⟨p, 0, none⟩), .int .u32 n] w (HasPost w (.bool false)) := by
  have c0 : w.cell? ⟨p, 0, none⟩ = some (.bool s.any) := by rw [cell_of_block hs]; rfl
  have c1 : w.cell? ⟨p, 1, none⟩ = some (.int .u32 s.top) := by rw [cell_of_block hs]; rfl
  have hbd := behindZ_bd n s.top
  cases ha : s.any
  · rw [ha] at c0
    clear h
    go_enter Try.func9, Try.ntmps9
    go_wp2_with (go_at_call 15; refine (w_behind n s.top _).mono ?_; rintro e w' ⟨rfl, rfl⟩)
    go_ret
    exact ⟨rfl, 0, rfl⟩
  · rw [ha] at c0 h
    have h2 : 0 < behindZ n s.top ∨ behindZ n s.top ≤ -64 := by simpa using h
    clear h
    by_cases h1 : 0 < behindZ n s.top
    · have hd : decide (behindZ n s.top ≤ 0) = false := by simp; omega
      clear h2
      go_enter Try.func9, Try.ntmps9
      go_wp2_with (go_at_call 15; refine (w_behind n s.top _).mono ?_; rintro e w' ⟨rfl, rfl⟩)
      go_ret
      exact ⟨rfl, 0, rfl⟩
    · have hd : decide (behindZ n s.top ≤ 0) = true := by simp; omega
      have h3 : decide (-64 < behindZ n s.top) = false := by simp; omega
      clear h2
      go_enter Try.func9, Try.ntmps9
      go_wp2_with (go_at_call 15; refine (w_behind n s.top _).mono ?_; rintro e w' ⟨rfl, rfl⟩)
      go_ret
      exact ⟨rfl, 0, rfl⟩
set_option maxHeartbeats 1000000 in
theorem s_has_at (p : Nat) (s : SqS) (n : Int) (w : World) (hs : SqAt w p s) (ha : s.any = true) (j : Nat) (hj : behindZ n s.top = -(j : Int)) (hj2 : j < 64) :
    Calls Try.prog 9 #[.pointer (some ⟨p, 0, none⟩), .int .u32 n] w (HasPost w (.bool (s.m j))) := by
  have c0 : w.cell? ⟨p, 0, none⟩ = some (.bool true) := by rw [cell_of_block hs, ← ha]; rfl
  have c1 : w.cell? ⟨p, 1, none⟩ = some (.int .u32 s.top) := by rw [cell_of_block hs]; rfl
  have c2 : w.cell? ⟨p, 2, none⟩ = some (.int .u64 (bw s.m : Nat)) := by rw [cell_of_block hs]; rfl
  have hbeh := w_behind n s.top w
  rw [hj] at hbeh
  have hbh := Lib.hid hbeh
  clear hbeh hj
  cases hm : s.m j
  · have hb := tk_no s.m j hj2 hm
    clear hm
    go_enter Try.func9, Try.ntmps9
    go_wp2_with (go_at_call 15; refine hbh.out.mono ?_; rintro e w' ⟨rfl, rfl⟩)
    go_ret
    exact ⟨rfl, 0, rfl⟩
  · have hb := tk_yes s.m j hj2 hm
    clear hm
    go_enter Try.func9, Try.ntmps9
    go_wp2_with (go_at_call 15; refine hbh.out.mono ?_; rintro e w' ⟨rfl, rfl⟩)
    go_ret
    exact ⟨rfl, 0, rfl⟩
theorem s_has (p : Nat) (s : SqS) (n : Int) (w : World) (hs : SqAt w p s) :
    Calls Try.prog 9 #[.pointer (some ⟨p, 0, none⟩), .int .u32 n] w (HasPost w (.bool (sqHas s n))) := by
  unfold sqHas
  cases ha : s.any
  · simpa using s_has_no p s n w hs (.inl ha)
  · by_cases h1 : 0 < behindZ n s.top
    · have h := s_has_no p s n w hs (.inr (.inl h1))
      rw [show decide (behindZ n s.top ≤ 0) = false by simp; omega]
      simpa using h
    · by_cases h2 : behindZ n s.top ≤ -64
      · have h := s_has_no p s n w hs (.inr (.inr h2))
        rw [show decide (-64 < behindZ n s.top) = false by simp; omega]
        simpa using h
      · have h := s_has_at p s n w hs ha (-(behindZ n s.top)).toNat (by omega) (by omega)
        rw [show decide (behindZ n s.top ≤ 0) = true by simp; omega, show decide (-64 < behindZ n s.top) = true by simp; omega]
        simpa using h
/-- how many of the first k numbers behind the top did not come -/
def sqHoles (s : SqS) : Nat → Nat
  | 0 => 0
  | k + 1 => sqHoles s k + (s.any && !s.m k).toNat
theorem sqHoles_0 (s : SqS) : sqHoles s 0 = 0 := rfl
theorem sqHoles_s (s : SqS) (k : Nat) : sqHoles s (k + 1) = sqHoles s k + (s.any && !s.m k).toNat := rfl
theorem sqHoles_le (s : SqS) (k : Nat) : sqHoles s k ≤ k := by
  induction k with
  | zero => exact Nat.le_refl _
  | succ k ih => rw [sqHoles_s]; cases (s.any && !s.m k) <;> simp <;> omega
attribute [local irreducible] sqHoles
def clampZ (n lo hi : Int) : Int := max lo (min n (max lo hi))
theorem w_clamp (n lo hi : Int) (w : World) :
    Calls Try.prog 17 #[.int .i64 n, .int .i64 lo, .int .i64 hi] w fun e w' => e = .returned (.int .i64 (clampZ n lo hi)) ∧ w = w' := by
  go_enter Try.func17, Try.ntmps17
  go_wp2
  all_goals
    go_ret
    exact ⟨ret_int (by unfold clampZ; omega), rfl⟩
set_option maxHeartbeats 1000000 in
theorem s_holes (p : Nat) (s : SqS) (n : Int) (w : World) (hs : SqAt w p s) :
    Calls Try.prog 11 #[.pointer (some ⟨p, 0, none⟩), .int .i64 n] w (HasPost w (.int .i64 (sqHoles s (clampZ n 0 64).toNat : Nat))) := by
  have c0 : w.cell? ⟨p, 0, none⟩ = some (.bool s.any) := by rw [cell_of_block hs]; rfl
  have c2 : w.cell? ⟨p, 2, none⟩ = some (.int .u64 (bw s.m : Nat)) := by rw [cell_of_block hs]; rfl
  obtain ⟨c, hc⟩ : ∃ c : Nat, clampZ n 0 64 = c := ⟨(clampZ n 0 64).toNat, by unfold clampZ; omega⟩
  have hc64 : c ≤ 64 := by unfold clampZ at hc; omega
  have hcl := w_clamp n 0 64 w
  rw [hc] at hcl ⊢
  have hclh := Lib.hid hcl
  clear hcl hc
  go_enter Try.func11, Try.ntmps11
  go_wp2_with (go_at_call 17; refine hclh.out.mono ?_; rintro e w' ⟨rfl, rfl⟩)
  go_loopw [5, 9] (fun v i wr => ∃ k : Nat, k ≤ c ∧ i = .int .i64 k ∧ v = .int .i64 (sqHoles s k : Nat) ∧ wr = w) (fun _ i _ => c - (intOf i).toNat)
  case atStart => exact ⟨0, by omega, rfl, by rw [sqHoles_0]; rfl, rfl⟩
  case round =>
    obtain ⟨k, hk, rfl, rfl, rfl⟩ := hrel
    have hle := sqHoles_le s k
    by_cases hlt : k < c
    · cases ha : s.any
      · rw [ha] at c0
        have he : Hid (sqHoles s (k + 1) = sqHoles s k) := hide (by rw [sqHoles_s, ha]; rfl)
        clear ha
        go_wp2_with fail
        go_roundw
        case rel => exact ⟨k + 1, by omega, by go_num, by rw [he.out], trivial⟩
        case measure => simp [intOf]; omega
      · rw [ha] at c0
        cases hm : s.m k
        · have he : Hid (sqHoles s (k + 1) = sqHoles s k + 1) := hide (by rw [sqHoles_s, ha, hm]; rfl)
          have hb := mv_yes s.m k (by omega) hm
          clear ha hm
          go_wp2_with fail
          go_roundw
          case rel => exact ⟨k + 1, by omega, by go_num, by rw [he.out]; go_num, trivial⟩
          case measure => simp [intOf]; omega
        · have he : Hid (sqHoles s (k + 1) = sqHoles s k) := hide (by rw [sqHoles_s, ha, hm]; rfl)
          have hb := mv_no s.m k (by omega) hm
          clear ha hm
          go_wp2_with fail
          go_roundw
          case rel => exact ⟨k + 1, by omega, by go_num, by rw [he.out], trivial⟩
          case measure => simp [intOf]; omega
    · obtain rfl : k = c := by omega
      go_wp2_with fail
      go_ret
      exact ⟨rfl, 0, rfl⟩
end Go.Proofs.Ytickioeepicgcaa
