/- The contracts of package seq's Take and move: what a number that comes does to the state. Conditions: the state lies at the pointer; its counts are small. -/
import Derived.Test.YtickioeepicgcaaSeqPlain
import Derived.Laws.ShiftsVarLaws
import Derived.WalkSmall
import Derived.Deep.RegionWith
import Derived.Deep.RegionHeld3
import Derived.StillTailTactics
namespace Go.Proofs.Ytickioeepicgcaa
open Go.RowKit
/-! ### Behind -/
def behindZ (a b : Int) : Int := if (a - b) % 4294967296 < 2147483648 then (a - b) % 4294967296 else (a - b) % 4294967296 - 4294967296
theorem behindZ_bd (a b : Int) : -2147483648 ≤ behindZ a b ∧ behindZ a b < 2147483648 := by unfold behindZ; split <;> omega
theorem behind_wrap (a b : Int) : wrap64 (wrap32 ((a - b) % 4294967296)) = behindZ a b := by
  have h : wrap32 ((a - b) % 4294967296) = behindZ a b := by
    unfold wrap32 behindZ
    split <;> omega
  have := behindZ_bd a b
  rw [h, IntWalk.wrap64_in _ ⟨by omega, by omega⟩]
set_option maxHeartbeats 400000 in
theorem w_behind (a b : Int) (w : World) :
    Calls Try.prog 15 #[.int .u32 a, .int .u32 b] w fun e w' => e = .returned (.int .i64 (behindZ a b)) ∧ w = w' := by
  go_enter Try.func15, Try.ntmps15
  go_wp2_with fail
  go_ret
  exact ⟨ret_int (behind_wrap a b), rfl⟩
theorem behind_hi (a b : Int) (ha : 0 ≤ a ∧ a < 4294967296) (hb : 0 ≤ b ∧ b < 4294967296) (h : 2147483648 ≤ a - b) : a - b - 4294967296 = behindZ a b := by
  unfold behindZ; split <;> omega
theorem behind_lo (a b : Int) (ha : 0 ≤ a ∧ a < 4294967296) (hb : 0 ≤ b ∧ b < 4294967296) (h : a - b < -2147483648) : a - b + 4294967296 = behindZ a b := by
  unfold behindZ; split <;> omega
theorem behind_mid (a b : Int) (h1 : -2147483648 ≤ a - b) (h : a - b < 2147483648) : a - b = behindZ a b := by
  unfold behindZ; split <;> omega
set_option maxHeartbeats 400000 in
theorem r_behind (a b : Int) (w : World) (ha : 0 ≤ a ∧ a < 4294967296) (hb : 0 ≤ b ∧ b < 4294967296) :
    Calls Try.prog 10 #[.int .u32 a, .int .u32 b] w fun e w' => e = .returned (.int .i64 (behindZ a b)) ∧ w = w' := by
  obtain ⟨a1, a2⟩ := ha
  obtain ⟨b1, b2⟩ := hb
  go_enter Try.func10, Try.ntmps10
  go_wp2_with fail
  all_goals
    go_ret
    exact ⟨ret_int (by first | exact behind_hi a b ⟨a1, a2⟩ ⟨b1, b2⟩ (by omega) | exact behind_lo a b ⟨a1, a2⟩ ⟨b1, b2⟩ (by omega) | exact behind_mid a b (by omega) (by omega)), rfl⟩
theorem goneM_0 (m : Nat → Bool) : goneM m 0 = 0 := rfl
theorem goneM_s (m : Nat → Bool) (k : Nat) : goneM m (k + 1) = goneM m k + (!(m (63 - k))).toNat := rfl
attribute [local irreducible] behindZ bw goneM
/-! ### the state -/
structure SqS where
  any : Bool
  top : Int
  m : Nat → Bool
  came : Int
  tw : Int
  lost : Int
def sqA (s : SqS) : Array Value := #[.bool s.any, .int .u32 s.top, .int .u64 (bw s.m : Nat), .int .i64 s.came, .int .i64 s.tw, .int .i64 s.lost]
def SqAt (w : World) (p : Nat) (s : SqS) : Prop := w.heap[p]? = some (.cells (sqA s) 27 (0, 0))
/-- numbers that the state may hold -/
structure SqOk (s : SqS) (c : Int) : Prop where
  t1 : 0 ≤ s.top
  t2 : s.top < 4294967296
  c1 : 0 ≤ s.came
  c2 : s.came ≤ c
  w1 : 0 ≤ s.tw
  w2 : s.tw ≤ c
  l1 : 0 ≤ s.lost
  l2 : s.lost ≤ c
def SqPost (W : World) (p : Nat) (s : SqS) (v : Value) (e : Ending) (W' : World) : Prop := e = .returned v ∧ SqAt W' p s ∧ W.grownBy W' (some p)
theorem sqA_1 (s : SqS) (x : Int) : (sqA s).setIfInBounds 1 (.int .u32 x) = sqA { s with top := x } := rfl
theorem sqA_2 (s : SqS) (n : Nat) (m : Nat → Bool) (h : n = bw m) : (sqA s).setIfInBounds 2 (.int .u64 (n : Int)) = sqA { s with m := m } := by subst h; rfl
theorem sqA_3 (s : SqS) (x : Int) : (sqA s).setIfInBounds 3 (.int .i64 x) = sqA { s with came := x } := rfl
theorem sqA_4 (s : SqS) (x : Int) : (sqA s).setIfInBounds 4 (.int .i64 x) = sqA { s with tw := x } := rfl
theorem sqA_5 (s : SqS) (x : Int) : (sqA s).setIfInBounds 5 (.int .i64 x) = sqA { s with lost := x } := rfl
theorem SqAt.set1 {w : World} {p : Nat} {s : SqS} (h : SqAt w p s) (x : Int) : SqAt (w.setCell ⟨p, 1, none⟩ (.int .u32 x)) p { s with top := x } := by unfold SqAt; rw [blk_set h, sqA_1]
theorem SqAt.set2 {w : World} {p : Nat} {s : SqS} (h : SqAt w p s) (n : Nat) (m : Nat → Bool) (e : n = bw m) : SqAt (w.setCell ⟨p, 2, none⟩ (.int .u64 (n : Int))) p { s with m := m } := by unfold SqAt; rw [blk_set h, sqA_2 s n m e]
theorem SqAt.set3 {w : World} {p : Nat} {s : SqS} (h : SqAt w p s) (x : Int) : SqAt (w.setCell ⟨p, 3, none⟩ (.int .i64 x)) p { s with came := x } := by unfold SqAt; rw [blk_set h, sqA_3]
theorem SqAt.set4 {w : World} {p : Nat} {s : SqS} (h : SqAt w p s) (x : Int) : SqAt (w.setCell ⟨p, 4, none⟩ (.int .i64 x)) p { s with tw := x } := by unfold SqAt; rw [blk_set h, sqA_4]
theorem SqAt.set5 {w : World} {p : Nat} {s : SqS} (h : SqAt w p s) (x : Int) : SqAt (w.setCell ⟨p, 5, none⟩ (.int .i64 x)) p { s with lost := x } := by unfold SqAt; rw [blk_set h, sqA_5]
theorem SqAt.lt {w : World} {p : Nat} {s : SqS} (h : SqAt w p s) : p < w.heap.size := (Array.getElem?_eq_some_iff.1 h).1
/-! ### move -/
/-- the bit that the walk of move asks for -/
theorem mv_bit (m : Nat → Bool) (k : Nat) (hk : k < 64) : bits .and .u64 (((bw m : Nat) : Int) / 2 ^ k) 1 = ((m k).toNat : Int) := by
  have h := bw_mod m k hk
  have hl := bw_lt m
  have e2 : ((bw m : Nat) : Int) / 2 ^ k = ((bw m / 2 ^ k : Nat) : Int) := by
    rw [Int.natCast_ediv]; congr 1
  rw [e2]
  have hx := Nat.div_le_self (bw m) (2 ^ k)
  generalize bw m / 2 ^ k = X at h hx ⊢
  rw [and_one_u64 _ (by omega) (by omega)]
  omega
theorem bw_shlZ (m : Nat → Bool) (k : Nat) : IntKind.u64.wrap (((bw m : Nat) : Int) * 2 ^ k) = ((bw (mvM m k) : Nat) : Int) := by
  have h : ((bw m * 2 ^ k : Nat) : Int) = ((bw m : Nat) : Int) * 2 ^ k := by rw [Int.natCast_mul, Int.natCast_pow]; rfl
  rw [IntKind.wrap_u64, ← bw_shl, ← h]
  exact (Int.natCast_emod (bw m * 2 ^ k) 18446744073709551616).symm
theorem mv_yes (m : Nat → Bool) (k : Nat) (hk : k < 64) (h : m k = false) : (bits .and .u64 (((bw m : Nat) : Int) / 2 ^ k) 1 == 0) = true := by rw [mv_bit m k hk, h]; rfl
theorem mv_no (m : Nat → Bool) (k : Nat) (hk : k < 64) (h : m k = true) : (bits .and .u64 (((bw m : Nat) : Int) / 2 ^ k) 1 == 0) = false := by rw [mv_bit m k hk, h]; rfl
set_option maxHeartbeats 1000000 in
theorem s_move_hi (p : Nat) (s : SqS) (c by_ : Int) (w : World) (hs : SqAt w p s) (ok : SqOk s c) (hc : c ≤ 1000000000000) (h0 : 64 < by_) (h1 : by_ < 2147483648) :
    Calls Try.prog 16 #[.pointer (some ⟨p, 0, none⟩), .int .i64 by_] w (SqPost w p { s with lost := s.lost + (goneM s.m 64 : Nat) + (by_ - 64), m := mvM s.m by_.toNat } (.tuple #[])) := by
  obtain ⟨any, top, m, came, tw, lost⟩ := s
  obtain ⟨o1, o2, r1, r2, q1, q2, k1, k2⟩ := ok
  simp only at o1 o2 r1 r2 q1 q2 k1 k2 ⊢
  have hsh := hide hs
  clear hs
  go_enter Try.func16, Try.ntmps16
  go_wp2_with fail
  go_loopw [9] (fun i wr => ∃ k : Nat, k ≤ 64 ∧ i = .int .i64 k ∧ SqAt wr p ⟨any, top, m, came, tw, lost + (goneM m k : Nat)⟩ ∧ w.grownBy wr (some p)) (fun i _ => 64 - (intOf i).toNat)
  case atStart => exact ⟨0, by omega, rfl, by simpa [goneM_0] using hsh.out, only_refl _ _⟩
  case round =>
    obtain ⟨k, hk, rfl, hs, hg⟩ := hrel
    have hgk := goneM_le m k
    have c2 : wr.cell? ⟨p, 2, none⟩ = some (.int .u64 (bw m : Nat)) := by rw [cell_of_block hs]; rfl
    have c5 : wr.cell? ⟨p, 5, none⟩ = some (.int .i64 (lost + (goneM m k : Nat))) := by rw [cell_of_block hs]; rfl
    have f5 : wr.frozen? ⟨p, 5, none⟩ = false := frozen_of_row wr p 5 _ _ hs
    have f2 : wr.frozen? ⟨p, 2, none⟩ = false := frozen_of_row wr p 2 _ _ hs
    have hs2 := hide hs
    clear hs
    by_cases hlt : k < 64
    · have hkk : (63 : Int) - (k : Int) = ((63 - k : Nat) : Int) := by omega
      cases hm : m (63 - k)
      · have hb := mv_yes m (63 - k) (by omega) hm
        have he : Hid (goneM m (k + 1) = goneM m k + 1) := hide (by rw [goneM_s, hm]; rfl)
        clear hm
        go_wp2_with fail
        go_roundw
        case rel =>
          refine ⟨k + 1, by omega, by go_num, ?_, only_set hg 5 _⟩
          have h := hs2.out.set5 (lost + (goneM m k : Nat) + 1)
          have e : lost + ((goneM m (k + 1) : Nat) : Int) = lost + (goneM m k : Nat) + 1 := by rw [he.out]; omega
          rw [e]
          exact h
        case measure => simp [intOf]; omega
      · have hb := mv_no m (63 - k) (by omega) hm
        have he : Hid (goneM m (k + 1) = goneM m k) := hide (by rw [goneM_s, hm]; rfl)
        clear hm
        go_wp2_with fail
        go_roundw
        case rel =>
          refine ⟨k + 1, by omega, by go_num, ?_, hg⟩
          rw [he.out]
          exact hs2.out
        case measure => simp [intOf]; omega
    · obtain rfl : k = 64 := by omega
      go_wp2_with fail
      go_end0
      refine ⟨rfl, ?_, only_set (only_set hg 5 _) 2 _⟩
      exact (hs2.out.set5 _).set2 0 (mvM m by_.toNat) (bw_far m _ (by omega)).symm
set_option maxHeartbeats 1000000 in
theorem s_move_eq (p : Nat) (s : SqS) (c by_ : Int) (w : World) (hs : SqAt w p s) (ok : SqOk s c) (hc : c ≤ 1000000000000) (h0 : by_ = 64) :
    Calls Try.prog 16 #[.pointer (some ⟨p, 0, none⟩), .int .i64 by_] w (SqPost w p { s with lost := s.lost + (goneM s.m 64 : Nat), m := mvM s.m by_.toNat } (.tuple #[])) := by
  obtain ⟨any, top, m, came, tw, lost⟩ := s
  obtain ⟨o1, o2, r1, r2, q1, q2, k1, k2⟩ := ok
  simp only at o1 o2 r1 r2 q1 q2 k1 k2 ⊢
  subst h0
  have hsh := hide hs
  clear hs
  go_enter Try.func16, Try.ntmps16
  go_wp2_with fail
  go_loopw [9] (fun i wr => ∃ k : Nat, k ≤ 64 ∧ i = .int .i64 k ∧ SqAt wr p ⟨any, top, m, came, tw, lost + (goneM m k : Nat)⟩ ∧ w.grownBy wr (some p)) (fun i _ => 64 - (intOf i).toNat)
  case atStart => exact ⟨0, by omega, rfl, by simpa [goneM_0] using hsh.out, only_refl _ _⟩
  case round =>
    obtain ⟨k, hk, rfl, hs, hg⟩ := hrel
    have hgk := goneM_le m k
    have c2 : wr.cell? ⟨p, 2, none⟩ = some (.int .u64 (bw m : Nat)) := by rw [cell_of_block hs]; rfl
    have c5 : wr.cell? ⟨p, 5, none⟩ = some (.int .i64 (lost + (goneM m k : Nat))) := by rw [cell_of_block hs]; rfl
    have f5 : wr.frozen? ⟨p, 5, none⟩ = false := frozen_of_row wr p 5 _ _ hs
    have f2 : wr.frozen? ⟨p, 2, none⟩ = false := frozen_of_row wr p 2 _ _ hs
    have hs2 := hide hs
    clear hs
    by_cases hlt : k < 64
    · have hkk : (63 : Int) - (k : Int) = ((63 - k : Nat) : Int) := by omega
      cases hm : m (63 - k)
      · have hb := mv_yes m (63 - k) (by omega) hm
        have he : Hid (goneM m (k + 1) = goneM m k + 1) := hide (by rw [goneM_s, hm]; rfl)
        clear hm
        go_wp2_with fail
        go_roundw
        case rel =>
          refine ⟨k + 1, by omega, by go_num, ?_, only_set hg 5 _⟩
          have h := hs2.out.set5 (lost + (goneM m k : Nat) + 1)
          have e : lost + ((goneM m (k + 1) : Nat) : Int) = lost + (goneM m k : Nat) + 1 := by rw [he.out]; omega
          rw [e]
          exact h
        case measure => simp [intOf]; omega
      · have hb := mv_no m (63 - k) (by omega) hm
        have he : Hid (goneM m (k + 1) = goneM m k) := hide (by rw [goneM_s, hm]; rfl)
        clear hm
        go_wp2_with fail
        go_roundw
        case rel =>
          refine ⟨k + 1, by omega, by go_num, ?_, hg⟩
          rw [he.out]
          exact hs2.out
        case measure => simp [intOf]; omega
    · obtain rfl : k = 64 := by omega
      go_wp2_with fail
      go_end0
      refine ⟨rfl, ?_, only_set (only_set hg 5 _) 2 _⟩
      exact (hs2.out.set5 _).set2 0 (mvM m 64) (bw_far m 64 (by omega)).symm
set_option maxHeartbeats 1000000 in
theorem s_move_lo (p : Nat) (s : SqS) (c by_ : Int) (w : World) (hs : SqAt w p s) (ok : SqOk s c) (hc : c ≤ 1000000000000) (h0 : 0 < by_) (h1 : by_ < 64) :
    Calls Try.prog 16 #[.pointer (some ⟨p, 0, none⟩), .int .i64 by_] w (SqPost w p { s with lost := s.lost + (goneM s.m by_.toNat : Nat), m := mvM s.m by_.toNat } (.tuple #[])) := by
  obtain ⟨any, top, m, came, tw, lost⟩ := s
  obtain ⟨o1, o2, r1, r2, q1, q2, k1, k2⟩ := ok
  simp only at o1 o2 r1 r2 q1 q2 k1 k2 ⊢
  obtain ⟨n, rfl⟩ : ∃ n : Nat, by_ = n := ⟨by_.toNat, by omega⟩
  have hsh := hide hs
  clear hs
  go_enter Try.func16, Try.ntmps16
  go_wp2_with fail
  go_loopw [9] (fun i wr => ∃ k : Nat, k ≤ n ∧ i = .int .i64 k ∧ SqAt wr p ⟨any, top, m, came, tw, lost + (goneM m k : Nat)⟩ ∧ w.grownBy wr (some p)) (fun i _ => n - (intOf i).toNat)
  case atStart => exact ⟨0, by omega, rfl, by simpa [goneM_0] using hsh.out, only_refl _ _⟩
  case round =>
    obtain ⟨k, hk, rfl, hs, hg⟩ := hrel
    have hgk := goneM_le m k
    have c2 : wr.cell? ⟨p, 2, none⟩ = some (.int .u64 (bw m : Nat)) := by rw [cell_of_block hs]; rfl
    have c5 : wr.cell? ⟨p, 5, none⟩ = some (.int .i64 (lost + (goneM m k : Nat))) := by rw [cell_of_block hs]; rfl
    have f5 : wr.frozen? ⟨p, 5, none⟩ = false := frozen_of_row wr p 5 _ _ hs
    have f2 : wr.frozen? ⟨p, 2, none⟩ = false := frozen_of_row wr p 2 _ _ hs
    have hs2 := hide hs
    clear hs
    by_cases hlt : k < n
    · have hkk : (63 : Int) - (k : Int) = ((63 - k : Nat) : Int) := by omega
      cases hm : m (63 - k)
      · have hb := mv_yes m (63 - k) (by omega) hm
        have he : Hid (goneM m (k + 1) = goneM m k + 1) := hide (by rw [goneM_s, hm]; rfl)
        clear hm
        go_wp2_with fail
        go_roundw
        case rel =>
          refine ⟨k + 1, by omega, by go_num, ?_, only_set hg 5 _⟩
          have h := hs2.out.set5 (lost + (goneM m k : Nat) + 1)
          have e : lost + ((goneM m (k + 1) : Nat) : Int) = lost + (goneM m k : Nat) + 1 := by rw [he.out]; omega
          rw [e]
          exact h
        case measure => simp [intOf]; omega
      · have hb := mv_no m (63 - k) (by omega) hm
        have he : Hid (goneM m (k + 1) = goneM m k) := hide (by rw [goneM_s, hm]; rfl)
        clear hm
        go_wp2_with fail
        go_roundw
        case rel =>
          refine ⟨k + 1, by omega, by go_num, ?_, hg⟩
          rw [he.out]
          exact hs2.out
        case measure => simp [intOf]; omega
    · obtain rfl : k = n := by omega
      go_wp2_with fail
      go_end0
      refine ⟨rfl, ?_, only_set (only_set hg 5 _) 2 _⟩
      exact by rw [bw_shlZ]; exact (hs2.out.set5 _).set2 _ (mvM m k) rfl
/-- what goes out of the window and never came -/
def sqLost (m : Nat → Bool) (by_ : Int) : Int := if by_ < 64 then (goneM m by_.toNat : Nat) else (goneM m 64 : Nat) + (by_ - 64)
theorem s_move (p : Nat) (s : SqS) (c by_ : Int) (w : World) (hs : SqAt w p s) (ok : SqOk s c) (hc : c ≤ 1000000000000) (h0 : 0 < by_) (h1 : by_ < 2147483648) :
    Calls Try.prog 16 #[.pointer (some ⟨p, 0, none⟩), .int .i64 by_] w (SqPost w p { s with lost := s.lost + sqLost s.m by_, m := mvM s.m by_.toNat } (.tuple #[])) := by
  unfold sqLost
  by_cases h : by_ < 64
  · rw [if_pos h]; exact s_move_lo p s c by_ w hs ok hc h0 h
  · rw [if_neg h]
    by_cases h2 : by_ = 64
    · have := s_move_eq p s c by_ w hs ok hc h2
      rw [h2] at this ⊢
      simpa using this
    · have := s_move_hi p s c by_ w hs ok hc (by omega) h1
      rw [← Int.add_assoc]
      exact this
/-- a state's cells, whatever they are -/
def sqR (a : Bool) (t b c d e : Int) : Array Value := #[.bool a, .int .u32 t, .int .u64 b, .int .i64 c, .int .i64 d, .int .i64 e]
theorem sqR_info (a : Bool) (t b c d e : Int) : (Try.prog.info? 27).map (·.size) = some (sqR a t b c d e).size := by
  have h : (Try.prog.info? 27).map (·.size) = some 6 := by kernel_rfl
  rw [h]; rfl
theorem sqR_one (a : Bool) (t b c d e : Int) : (sqR a t b c d e).all (·.oneCell') = true := by simp [sqR, Value.oneCell']
theorem sqR_sz (s : SqS) (a : Bool) (t b c d e : Int) : (sqA s).size = (sqR a t b c d e).size := rfl
end Go.Proofs.Ytickioeepicgcaa
