/- Package shake's End and Share; the law's same, the document's Same, the law's take. Conditions: the state lies at the pointer; its numbers are of their kinds and not too great. -/
import Derived.Test.YtdpngimcmohmaaaShRef3
namespace Go.Proofs.Ytdpngimcmohmaaa
open Go.RowKit
set_option maxRecDepth 100000 in
set_option maxHeartbeats 1000000 in
theorem s_end (p : Nat) (s : ShS) (w : World) (hs : ShAt w p s) :
    Calls Try.prog 21 #[.pointer (some ⟨p, 0, none⟩)] w (ShPost w p { s with st := 3 } (.bool (s.st != 3))) := by
  have c0 : w.cell? ⟨p, 0, none⟩ = some (.int .i64 s.st) := by rw [cell_of_block hs]; rfl
  have f0 : w.frozen? ⟨p, 0, none⟩ = false := frozen_of_row w p 0 _ _ hs
  have hsh := Lib.hid hs
  clear hs
  go_enter Try.func21, Try.ntmps21
  go_wp2_with fail
  go_ret
  exact ⟨rfl, hsh.out.set0 3, only_set (only_refl w _) 0 _⟩
set_option maxRecDepth 100000 in
set_option maxHeartbeats 1000000 in
theorem w_clamp (n lo hi : Int) (w : World) :
    Calls Try.prog 23 #[.int .i64 n, .int .i64 lo, .int .i64 hi] w fun e w' => e = .returned (.int .i64 (max lo (min n (max lo hi)))) ∧ w = w' := by
  go_enter Try.func23, Try.ntmps23
  go_wp2
  all_goals
    go_ret
    exact ⟨ret_int (by omega), rfl⟩
set_option maxRecDepth 100000 in
set_option maxHeartbeats 1000000 in
theorem s_share (p : Nat) (s : ShS) (w : World) (hs : ShAt w p s) (h0 : 0 ≤ s.rd) (h4 : s.rd ≤ 4) :
    Calls Try.prog 15 #[.pointer (some ⟨p, 0, none⟩)] w fun e w' => e = .returned (.int .i64 (s.rd * 25)) ∧ w = w' := by
  have c2 : w.cell? ⟨p, 2, none⟩ = some (.int .i64 s.rd) := by rw [cell_of_block hs]; rfl
  have hcl : Hid (∀ y, Calls Try.prog 23 #[.int .i64 s.rd, .int .i64 0, .int .i64 4] y fun e w' => e = .returned (.int .i64 s.rd) ∧ y = w') := hide (fun y => (w_clamp s.rd 0 4 y).mono fun e w' ⟨h1, h2⟩ => ⟨by rw [h1, show max 0 (min s.rd (max 0 4)) = s.rd by omega], h2⟩)
  clear hs
  go_enter Try.func15, Try.ntmps15
  go_wp2_with fail
  refine (hcl.out _).mono ?_
  rintro e w' ⟨rfl, rfl⟩
  go_wp2_with fail
  go_ret
  exact ⟨ret_int (by omega), rfl⟩
attribute [local irreducible] tokZ blk wLoad wLoadRes loadAns wStore wStoreRes storeAns Plain
set_option maxRecDepth 100000 in
set_option maxHeartbeats 1000000 in
theorem r_same0 (w : World) :
    Calls Try.prog 25 #[.slice none 0 0, .slice none 0 0] w fun e w' => e = .returned (.bool true) ∧ w = w' := by
  go_enter Try.func25, Try.ntmps25
  go_wp2
  go_loop [5] (fun v => v = .int .i64 0) (fun _ => 0)
  case atStart => rfl
  case round =>
    obtain rfl := hrel
    go_wp2
    go_ret
    exact ⟨rfl, rfl⟩
set_option maxRecDepth 100000 in
set_option maxHeartbeats 2000000 in
theorem r_dsame (k a b : Int) (w : World) :
    Calls Try.prog 19 #[.agg (dgmA k a b), .agg (dgmA k a b)] w fun e w' => e = .returned (.bool true) ∧ Below w.heap.size w w' := by
  have hs1 : (w.alloc (.cells (dgmA k a b) 34)).heap.size = w.heap.size + 1 := by show (w.heap.push _).size = _; rw [Array.size_push]
  have hB := ((Below.refl w.heap.size w).alloc (Nat.le_refl _) (.cells (dgmA k a b) 34)).alloc (by rw [hs1]; omega) (.cells (dgmA k a b) 34)
  have hBh := Lib.hid hB
  clear hB hs1
  unfold dgmA at *
  go_enter Try.func19, Try.ntmps19
  go_wp2_with (go_at_call 25; refine (r_same0 _).mono ?_; rintro e w' ⟨rfl, rfl⟩)
  go_ret
  exact ⟨rfl, hBh.out⟩
set_option maxRecDepth 100000 in
set_option maxHeartbeats 2000000 in
theorem q_same (p : Nat) (s : ShS) (w : World) (hs : ShAt w p s) :
    Calls Try.prog 13 #[.pointer (some ⟨p, 0, none⟩), .agg (rsA s)] w fun e w' => e = .returned (.bool true) ∧ Below w.heap.size w w' := by
  have hB := (Below.refl w.heap.size w).alloc (Nat.le_refl _) (.cells (rsA s) 48)
  have b0 := last_block0 w (.cells (rsA s) 48) _ rfl
  have hs1 := hs.alloc (.cells (rsA s) 48)
  go_enter Try.func13, Try.ntmps13
  go_upto_region 1 with (fail)
  generalize World.alloc w _ = W at *
  have c0 : W.cell? ⟨p, 0, none⟩ = some (.int .i64 s.st) := by rw [cell_of_block hs1]; rfl
  have c1 : W.cell? ⟨p, 1, none⟩ = some (.int .u32 s.own) := by rw [cell_of_block hs1]; rfl
  have c2 : W.cell? ⟨p, 2, none⟩ = some (.int .i64 s.rd) := by rw [cell_of_block hs1]; rfl
  have c3 : W.cell? ⟨p, 3, none⟩ = some (.int .u32 s.peer) := by rw [cell_of_block hs1]; rfl
  have c4 : W.cell? ⟨p, 4, none⟩ = some (.int .i64 s.q) := by rw [cell_of_block hs1]; rfl
  have c5 : W.cell? ⟨p, 5, none⟩ = some (.int .i64 s.k) := by rw [cell_of_block hs1]; rfl
  have d0 : W.cell? ⟨w.heap.size, 0, none⟩ = some (.int .i64 s.st) := (cell_of_block b0).trans (rsA_c0 s)
  have d1 : W.cell? ⟨w.heap.size, 1, none⟩ = some (.int .u32 s.own) := (cell_of_block b0).trans (rsA_c1 s)
  have d2 : W.cell? ⟨w.heap.size, 2, none⟩ = some (.int .u32 s.peer) := (cell_of_block b0).trans (rsA_c2 s)
  have d3 : W.cell? ⟨w.heap.size, 3, none⟩ = some (.int .i64 s.rd) := (cell_of_block b0).trans (rsA_c3 s)
  have d4 : W.cell? ⟨w.heap.size, 4, none⟩ = some (.int .i64 s.q) := (cell_of_block b0).trans (rsA_c4 s)
  have d5 : W.cell? ⟨w.heap.size, 5, none⟩ = some (.int .i64 s.k) := (cell_of_block b0).trans (rsA_c5 s)
  have hBh := Lib.hid hB
  clear b0 hs hs1 hB
  go_quiet (fail)
  go_wp2_with fail
  go_ret
  exact ⟨rfl, below_drewN hBh.out _⟩
end Go.Proofs.Ytdpngimcmohmaaa
