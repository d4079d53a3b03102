/- The contract of package seq's Take. Conditions: the state lies at the pointer; its counts are small. -/
import Derived.Test.YtickioeepicgcaaSeq
namespace Go.Proofs.Ytickioeepicgcaa
open Go.RowKit
/-- what a number that comes does -/
def sqTake (s : SqS) (n : Int) : SqS × Int :=
  if s.any = false then (⟨true, n, m1, 1, 0, 0⟩, 0)
  else if 0 < behindZ n s.top then (⟨s.any, n, onM (mvM s.m (behindZ n s.top).toNat) 0, s.came + 1, s.tw, s.lost + sqLost s.m (behindZ n s.top)⟩, 0)
  else if behindZ n s.top ≤ -64 then (s, 90)
  else if s.m (-(behindZ n s.top)).toNat then ({ s with tw := s.tw + 1 }, 171)
  else ({ s with m := onM s.m (-(behindZ n s.top)).toNat, came := s.came + 1 }, 0)
attribute [local irreducible] behindZ bw goneM sqLost
theorem sq_lost_bd (m : Nat → Bool) (b : Int) (h0 : 0 < b) : 0 ≤ sqLost m b ∧ sqLost m b ≤ b := by
  unfold sqLost
  split
  · have := goneM_le m b.toNat; omega
  · have := goneM_le m 64; omega
theorem or_one (m : Nat → Bool) : bits .or .u64 ((bw m : Nat) : Int) 1 = ((bw (onM m 0) : Nat) : Int) := by
  have h := u64_or_nat (bw m) 1 (bw_lt m) (by omega)
  have e : bw m ||| 1 = bw (onM m 0) := bw_or m 0 (by omega)
  rw [e] at h
  exact h
theorem or_pow (m : Nat → Bool) (j : Nat) (hj : j < 64) : bits .or .u64 ((bw m : Nat) : Int) (2 ^ j) = ((bw (onM m j) : Nat) : Int) := by
  have hp : (2 : Nat) ^ j < 2 ^ 64 := Nat.pow_lt_pow_right (by omega) hj
  have h := u64_or_nat (bw m) (2 ^ j) (bw_lt m) hp
  rw [bw_or m j hj] at h
  rw [← h, Int.natCast_pow]
  rfl
set_option maxHeartbeats 1000000 in
theorem s_take_first (p : Nat) (s : SqS) (n : Int) (w : World) (hs : SqAt w p s) (ha : s.any = false) :
    Calls Try.prog 8 #[.pointer (some ⟨p, 0, none⟩), .int .u32 n] w (SqPost w p ⟨true, n, m1, 1, 0, 0⟩ (.int .i64 0)) := by
  obtain ⟨any, top, m, came, tw, lost⟩ := s
  simp only at ha ⊢
  subst ha
  have c0 : w.cell? ⟨p, 0, none⟩ = some (.bool false) := by rw [cell_of_block hs]; rfl
  have f0 : w.frozen? ⟨p, 0, none⟩ = false := frozen_of_row w p 0 _ _ hs
  have hp := hs.lt
  have hsh := hide hs
  go_enter Try.func8, Try.ntmps8
  go_wp2_with (refine wpList_store_row rfl _ _ _ rfl _ _ rfl rfl _ _ hs (sqR_info true n 1 1 0 0) (sqR_sz _ true n 1 1 0 0) (sqR_one true n 1 1 0 0) ?_)
  go_ret
  refine ⟨rfl, ?_, only_setRow (only_refl w _) (.inl rfl) _⟩
  have e : sqA ⟨true, n, m1, 1, 0, 0⟩ = sqR true n 1 1 0 0 := by unfold sqA; rw [bw_m1]; rfl
  unfold SqAt
  rw [e]
  exact setRow_heap _ _ _ _ _ _ hs
set_option maxHeartbeats 1000000 in
theorem s_take_up (p : Nat) (s : SqS) (c n : Int) (w : World) (hs : SqAt w p s) (ok : SqOk s c) (hc : c ≤ 1000000000000) (ha : s.any = true) (hb : 0 < behindZ n s.top) :
    Calls Try.prog 8 #[.pointer (some ⟨p, 0, none⟩), .int .u32 n] w (SqPost w p ⟨s.any, n, onM (mvM s.m (behindZ n s.top).toNat) 0, s.came + 1, s.tw, s.lost + sqLost s.m (behindZ n s.top)⟩ (.int .i64 0)) := by
  obtain ⟨any, top, m, came, tw, lost⟩ := s
  obtain ⟨o1, o2, r1, r2, q1, q2, k1, k2⟩ := ok
  simp only at o1 o2 r1 r2 q1 q2 k1 k2 ha hb ⊢
  subst ha
  have hbd := behindZ_bd n top
  have c0 : w.cell? ⟨p, 0, none⟩ = some (.bool true) := by rw [cell_of_block hs]; rfl
  have c1 : w.cell? ⟨p, 1, none⟩ = some (.int .u32 top) := by rw [cell_of_block hs]; rfl
  have hp := hs.lt
  have hsh := hide hs
  clear hs
  go_enter Try.func8, Try.ntmps8
  go_wp2_with fail
  refine (w_behind n top _).mono ?_
  rintro e w' ⟨rfl, rfl⟩
  go_wp2_with fail
  refine (s_move p ⟨true, top, m, came, tw, lost⟩ c (behindZ n top) _ hsh.out ⟨o1, o2, r1, r2, q1, q2, k1, k2⟩ hc hb hbd.2).mono ?_
  rintro e w1 ⟨rfl, hs1, hg1⟩
  simp only at hs1
  have d2 : w1.cell? ⟨p, 2, none⟩ = some (.int .u64 (bw (mvM m (behindZ n top).toNat) : Nat)) := by rw [cell_of_block hs1]; rfl
  have d3 : w1.cell? ⟨p, 3, none⟩ = some (.int .i64 came) := by rw [cell_of_block hs1]; rfl
  have g1 : w1.frozen? ⟨p, 1, none⟩ = false := frozen_of_row w1 p 1 _ _ hs1
  have g2 : w1.frozen? ⟨p, 2, none⟩ = false := frozen_of_row w1 p 2 _ _ hs1
  have g3 : w1.frozen? ⟨p, 3, none⟩ = false := frozen_of_row w1 p 3 _ _ hs1
  have d1 : w1.cell? ⟨p, 1, none⟩ = some (.int .u32 top) := by rw [cell_of_block hs1]; rfl
  have hs1h := hide hs1
  clear hs1 c0 c1
  go_wp2_with fail
  go_ret
  rw [or_one]
  exact ⟨rfl, ((hs1h.out.set1 n).set2 _ _ rfl).set3 (came + 1), only_set (only_set (only_set hg1 1 _) 2 _) 3 _⟩
end Go.Proofs.Ytickioeepicgcaa
