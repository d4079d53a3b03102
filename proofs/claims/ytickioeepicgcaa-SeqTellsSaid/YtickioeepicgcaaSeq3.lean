/- The contract of package seq's Take, the three other ways, and whole. Conditions: the state lies at the pointer; its counts are small. -/
import Derived.Test.YtickioeepicgcaaSeq2
namespace Go.Proofs.Ytickioeepicgcaa
open Go.RowKit
attribute [local irreducible] behindZ bw goneM sqLost
theorem tk_yes (m : Nat → Bool) (k : Nat) (hk : k < 64) (h : m k = true) : (bits .and .u64 (((bw m : Nat) : Int) / 2 ^ k) 1 == 1) = true := by rw [mv_bit m k hk, h]; rfl
theorem tk_no (m : Nat → Bool) (k : Nat) (hk : k < 64) (h : m k = false) : (bits .and .u64 (((bw m : Nat) : Int) / 2 ^ k) 1 == 1) = false := by rw [mv_bit m k hk, h]; rfl
theorem or_powW (m : Nat → Bool) (j : Nat) (hj : j < 64) : bits .or .u64 ((bw m : Nat) : Int) (IntKind.u64.wrap (2 ^ j)) = ((bw (onM m j) : Nat) : Int) := by
  have hp : (2 : Nat) ^ j < 2 ^ 64 := Nat.pow_lt_pow_right (by omega) hj
  have e : (2 : Int) ^ j = ((2 ^ j : Nat) : Int) := by rw [Int.natCast_pow]; rfl
  have h : IntKind.u64.wrap (2 ^ j) = 2 ^ j := by
    rw [IntKind.wrap_u64, e]
    generalize 2 ^ j = X at hp
    omega
  rw [h]
  exact or_pow m j hj
set_option maxHeartbeats 1000000 in
theorem s_take_old (p : Nat) (s : SqS) (n : Int) (w : World) (hs : SqAt w p s) (ha : s.any = true) (hb : behindZ n s.top ≤ -64) :
    Calls Try.prog 8 #[.pointer (some ⟨p, 0, none⟩), .int .u32 n] w (SqPost w p s (.int .i64 90)) := by
  obtain ⟨any, top, m, came, tw, lost⟩ := s
  simp only at ha hb ⊢
  subst ha
  have hbd := behindZ_bd n top
  have c0 : w.cell? ⟨p, 0, none⟩ = some (.bool true) := by rw [cell_of_block hs]; rfl
  have c1 : w.cell? ⟨p, 1, none⟩ = some (.int .u32 top) := by rw [cell_of_block hs]; rfl
  have hsh := hide hs
  clear hs
  go_enter Try.func8, Try.ntmps8
  go_wp2_with fail
  refine (w_behind n top _).mono ?_
  rintro e w' ⟨rfl, rfl⟩
  go_wp2_with fail
  go_ret
  exact ⟨rfl, hsh.out, only_refl _ _⟩
set_option maxHeartbeats 1000000 in
theorem s_take_twice (p : Nat) (s : SqS) (c n : Int) (j : Nat) (w : World) (hs : SqAt w p s) (ok : SqOk s c) (hc : c ≤ 1000000000000) (ha : s.any = true) (hj : behindZ n s.top = -(j : Int)) (hj2 : j < 64) (hm : s.m j = true) :
    Calls Try.prog 8 #[.pointer (some ⟨p, 0, none⟩), .int .u32 n] w (SqPost w p { s with tw := s.tw + 1 } (.int .i64 171)) := by
  obtain ⟨any, top, m, came, tw, lost⟩ := s
  obtain ⟨o1, o2, r1, r2, q1, q2, k1, k2⟩ := ok
  simp only at o1 o2 r1 r2 q1 q2 k1 k2 ha hj hm ⊢
  subst ha
  have hbeh := w_behind n top w
  rw [hj] at hbeh
  have hbh := Lib.hid hbeh
  have hbit := tk_yes m j hj2 hm
  have c0 : w.cell? ⟨p, 0, none⟩ = some (.bool true) := by rw [cell_of_block hs]; rfl
  have c1 : w.cell? ⟨p, 1, none⟩ = some (.int .u32 top) := by rw [cell_of_block hs]; rfl
  have c2 : w.cell? ⟨p, 2, none⟩ = some (.int .u64 (bw m : Nat)) := by rw [cell_of_block hs]; rfl
  have c4 : w.cell? ⟨p, 4, none⟩ = some (.int .i64 tw) := by rw [cell_of_block hs]; rfl
  have f4 : w.frozen? ⟨p, 4, none⟩ = false := frozen_of_row w p 4 _ _ hs
  have hsh := hide hs
  clear hs hbeh hj hm
  go_enter Try.func8, Try.ntmps8
  go_wp2_with fail
  refine hbh.out.mono ?_
  rintro e w' ⟨rfl, rfl⟩
  go_wp2_with fail
  go_ret
  exact ⟨rfl, hsh.out.set4 (tw + 1), only_set (only_refl _ _) 4 _⟩
set_option maxHeartbeats 1000000 in
theorem s_take_once (p : Nat) (s : SqS) (c n : Int) (j : Nat) (w : World) (hs : SqAt w p s) (ok : SqOk s c) (hc : c ≤ 1000000000000) (ha : s.any = true) (hj : behindZ n s.top = -(j : Int)) (hj2 : j < 64) (hm : s.m j = false) :
    Calls Try.prog 8 #[.pointer (some ⟨p, 0, none⟩), .int .u32 n] w (SqPost w p { s with m := onM s.m j, came := s.came + 1 } (.int .i64 0)) := by
  obtain ⟨any, top, m, came, tw, lost⟩ := s
  obtain ⟨o1, o2, r1, r2, q1, q2, k1, k2⟩ := ok
  simp only at o1 o2 r1 r2 q1 q2 k1 k2 ha hj hm ⊢
  subst ha
  have hbeh := w_behind n top w
  rw [hj] at hbeh
  have hbh := Lib.hid hbeh
  have hbit := tk_no m j hj2 hm
  have hor := hide (or_powW m j hj2)
  have c0 : w.cell? ⟨p, 0, none⟩ = some (.bool true) := by rw [cell_of_block hs]; rfl
  have c1 : w.cell? ⟨p, 1, none⟩ = some (.int .u32 top) := by rw [cell_of_block hs]; rfl
  have c2 : w.cell? ⟨p, 2, none⟩ = some (.int .u64 (bw m : Nat)) := by rw [cell_of_block hs]; rfl
  have c3 : w.cell? ⟨p, 3, none⟩ = some (.int .i64 came) := by rw [cell_of_block hs]; rfl
  have f2 : w.frozen? ⟨p, 2, none⟩ = false := frozen_of_row w p 2 _ _ hs
  have f3 : w.frozen? ⟨p, 3, none⟩ = false := frozen_of_row w p 3 _ _ hs
  have hsh := hide hs
  clear hs hbeh hj hm
  go_enter Try.func8, Try.ntmps8
  go_wp2_with fail
  refine hbh.out.mono ?_
  rintro e w' ⟨rfl, rfl⟩
  go_wp2_with fail
  go_region
  all_goals
    go_wp2_with fail
    go_ret
    rw [hor.out]
    exact ⟨rfl, ((hsh.out.set2 _ _ rfl).set3 (came + 1) : SqAt _ p _), only_drew (only_set (only_set (only_refl _ _) 2 _) 3 _)⟩
/-- Take, whole. -/
theorem s_take (p : Nat) (s : SqS) (c n : Int) (w : World) (hs : SqAt w p s) (ok : SqOk s c) (hc : c ≤ 1000000000000) :
    Calls Try.prog 8 #[.pointer (some ⟨p, 0, none⟩), .int .u32 n] w (SqPost w p (sqTake s n).1 (.int .i64 (sqTake s n).2)) := by
  unfold sqTake
  cases ha : s.any
  · rw [if_pos rfl]; exact s_take_first p s n w hs ha
  · rw [if_neg (by simp)]
    by_cases h1 : 0 < behindZ n s.top
    · rw [if_pos h1, ← ha]; exact s_take_up p s c n w hs ok hc ha h1
    · rw [if_neg h1]
      by_cases h2 : behindZ n s.top ≤ -64
      · rw [if_pos h2]; exact s_take_old p s n w hs ha h2
      · rw [if_neg h2]
        have hj : behindZ n s.top = -(((-(behindZ n s.top)).toNat : Nat) : Int) := by omega
        have hj2 : (-(behindZ n s.top)).toNat < 64 := by omega
        cases hm : s.m (-(behindZ n s.top)).toNat
        · rw [if_neg (by simp)]; have h := s_take_once p s c n _ w hs ok hc ha hj hj2 hm; rw [ha] at h; exact h
        · rw [if_pos rfl]; have h := s_take_twice p s c n _ w hs ok hc ha hj hj2 hm; rw [ha] at h; exact h
theorem sqTake_ok (s : SqS) (c n : Int) (ok : SqOk s c) (h0 : 0 ≤ n) (h1 : n < 4294967296) : SqOk (sqTake s n).1 (c + 2147483648) := by
  obtain ⟨o1, o2, r1, r2, q1, q2, k1, k2⟩ := ok
  have hbd := behindZ_bd n s.top
  unfold sqTake
  split
  · exact ⟨h0, h1, by simp, by simp; omega, by simp, by simp; omega, by simp, by simp; omega⟩
  · split
    · rename_i hp
      have hl := sq_lost_bd s.m _ hp
      exact ⟨h0, h1, by simp; omega, by simp; omega, by simp; omega, by simp; omega, by simp; omega, by simp; omega⟩
    · split
      · exact ⟨o1, o2, r1, Int.le_trans r2 (by omega), q1, Int.le_trans q2 (by omega), k1, Int.le_trans k2 (by omega)⟩
      · split
        · exact ⟨o1, o2, r1, by simp; omega, by simp; omega, by simp; omega, k1, by simp; omega⟩
        · exact ⟨o1, o2, by simp; omega, by simp; omega, q1, by simp; omega, k1, by simp; omega⟩
end Go.Proofs.Ytickioeepicgcaa
