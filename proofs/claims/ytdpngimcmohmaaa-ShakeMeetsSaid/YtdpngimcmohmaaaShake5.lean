/- The contracts of package shake's New, Tick, End, and the law's awake. Conditions: the state lies at the pointer, its numbers are of their kinds and not too great. -/
import Derived.Test.YtdpngimcmohmaaaShake4
namespace Go.Proofs.Ytdpngimcmohmaaa
open Go.RowKit
attribute [local irreducible] tokZ
set_option maxRecDepth 100000 in
set_option maxHeartbeats 400000 in
theorem s_new (own : Int) (w : World) :
    Calls Try.prog 9 #[.int .u32 own] w fun e w' => e = .returned (.pointer (some ⟨w.heap.size, 0, none⟩)) ∧ w' = w.alloc (.cells (shA ⟨0, own, 0, 0, 0, 0⟩) 45) := by
  go_enter Try.func9, Try.ntmps9
  go_wp2
  go_ret
  exact ⟨rfl, rfl⟩
/-- what Tick does to the state, and answers -/
def shTick (s : ShS) : ShS × (Int × Int × Int) × Bool :=
  if s.st ≠ 1 then (s, (0, 0, 0), false)
  else if s.q + 1 < 10 then ({ s with q := s.q + 1 }, (0, 0, 0), false)
  else ({ s with k := s.k + 1, q := 0 }, (1, tokZ s.own s.rd, 0), true)
set_option maxRecDepth 100000 in
set_option maxHeartbeats 1000000 in
theorem s_tick_no (p : Nat) (s : ShS) (w : World) (hs : ShAt w p s) (ok : ShOk s) (h1 : s.st ≠ 1) :
    Calls Try.prog 11 #[.pointer (some ⟨p, 0, none⟩)] w (ShPost w p s (.tuple #[.agg (dgmA 0 0 0), .bool false])) := by
  obtain ⟨st, own, rd, peer, q, k⟩ := s
  obtain ⟨o1, o2, r1, r2, q1, q2, k1, k2⟩ := ok
  simp only at o1 o2 r1 r2 q1 q2 k1 k2 h1 ⊢
  have e1 : (st == 1) = false := by simp; exact h1
  have e2 : (st != 1) = true := by simp; exact h1
  clear h1
  have hp : p < w.heap.size := (Array.getElem?_eq_some_iff.1 hs).1
  have hz := zeroDgm
  go_enter Try.func11, Try.ntmps11
  go_upto_region 1 with (fail)
  generalize hW : World.alloc w _ = W
  have hs1 : ShAt W p ⟨st, own, rd, peer, q, k⟩ := by rw [← hW]; exact hs.alloc _
  have hB : W.heap[w.heap.size]? = some (.cells (dgmA 0 0 0) 34 (0, 0)) := by rw [← hW]; exact last_block0 _ _ _ rfl
  have hon : w.grownBy W (some p) := by rw [← hW]; exact only_alloc (only_refl w _) _
  have hne : w.heap.size ≠ p := by omega
  have c0 : W.cell? ⟨p, 0, none⟩ = some (.int .i64 st) := by rw [cell_of_block hs1]; rfl
  have c4 : W.cell? ⟨p, 4, none⟩ = some (.int .i64 q) := by rw [cell_of_block hs1]; rfl
  have f4 : W.frozen? ⟨p, 4, none⟩ = false := frozen_of_row W p 4 _ _ hs1
  have hs1h := hide hs1
  clear hW hs hs1 hz
  go_wp2_with (refine wpList_store_row rfl _ _ _ rfl _ _ rfl rfl _ _ hB (dgm_info _ (dgmA_size _ _ _)) (dgm_sz 0 0 0 0 0 0) (dgmA_one 0 0 0) ?_)
  refine bodyPost_ret (v := .tuple #[.agg (dgmA 0 0 0), .bool false]) ?hres rfl ?hpost
  case hpost => exact ⟨rfl, hs1h.out.setRow (by omega) _, only_setRow hon (.inr (Nat.le_refl _)) _⟩
  case hres =>
    refine results_row_tmp rfl _ _ w.heap.size 34 (dgmA 0 0 0) (0, 0) _ (.bool false) rfl rfl ?hg Try.underlying34 rfl (dgm_info _ (dgmA_size _ _ _))
    case hg => exact setRow_heap _ _ _ _ _ _ hB
set_option maxRecDepth 100000 in
set_option maxHeartbeats 1000000 in
theorem s_tick_wait (p : Nat) (s : ShS) (w : World) (hs : ShAt w p s) (ok : ShOk s) (h1 : s.st = 1) (hq : s.q + 1 < 10) :
    Calls Try.prog 11 #[.pointer (some ⟨p, 0, none⟩)] w (ShPost w p { s with q := s.q + 1 } (.tuple #[.agg (dgmA 0 0 0), .bool false])) := by
  obtain ⟨st, own, rd, peer, q, k⟩ := s
  obtain ⟨o1, o2, r1, r2, q1, q2, k1, k2⟩ := ok
  simp only at o1 o2 r1 r2 q1 q2 k1 k2 h1 hq ⊢
  subst h1
  have hp : p < w.heap.size := (Array.getElem?_eq_some_iff.1 hs).1
  have hz := zeroDgm
  go_enter Try.func11, Try.ntmps11
  go_upto_region 1 with (fail)
  generalize hW : World.alloc w _ = W
  have hs1 : ShAt W p ⟨1, own, rd, peer, q, k⟩ := by rw [← hW]; exact hs.alloc _
  have hB : W.heap[w.heap.size]? = some (.cells (dgmA 0 0 0) 34 (0, 0)) := by rw [← hW]; exact last_block0 _ _ _ rfl
  have hon : w.grownBy W (some p) := by rw [← hW]; exact only_alloc (only_refl w _) _
  have hne : w.heap.size ≠ p := by omega
  have c0 : W.cell? ⟨p, 0, none⟩ = some (.int .i64 1) := by rw [cell_of_block hs1]; rfl
  have c4 : W.cell? ⟨p, 4, none⟩ = some (.int .i64 q) := by rw [cell_of_block hs1]; rfl
  have f4 : W.frozen? ⟨p, 4, none⟩ = false := frozen_of_row W p 4 _ _ hs1
  have hs1h := hide hs1
  clear hW hs hs1 hz
  have hB2 := blk_set_other hB hne 4 (.int .i64 (q + 1))
  clear hB
  go_wp2_with (refine wpList_store_row rfl _ _ _ rfl _ _ rfl rfl _ _ hB2 (dgm_info _ (dgmA_size _ _ _)) (dgm_sz 0 0 0 0 0 0) (dgmA_one 0 0 0) ?_)
  refine bodyPost_ret (v := .tuple #[.agg (dgmA 0 0 0), .bool false]) ?hres rfl ?hpost
  case hpost => exact ⟨rfl, (hs1h.out.set4 (q + 1)).setRow (by omega) _, only_setRow (only_set hon 4 _) (.inr (Nat.le_refl _)) _⟩
  case hres =>
    refine results_row_tmp rfl _ _ w.heap.size 34 (dgmA 0 0 0) (0, 0) _ (.bool false) rfl rfl ?hg Try.underlying34 rfl (dgm_info _ (dgmA_size _ _ _))
    case hg => exact setRow_heap _ _ _ _ _ _ hB2
set_option maxRecDepth 100000 in
set_option maxHeartbeats 1000000 in
theorem s_tick_ask (p : Nat) (s : ShS) (w : World) (hs : ShAt w p s) (ok : ShOk s) (h1 : s.st = 1) (hq : 10 ≤ s.q + 1) (hq0 : s.q ≤ 999999) :
    Calls Try.prog 11 #[.pointer (some ⟨p, 0, none⟩)] w (ShPost w p { s with k := s.k + 1, q := 0 } (.tuple #[.agg (dgmA 1 (tokZ s.own s.rd) 0), .bool true])) := by
  obtain ⟨st, own, rd, peer, q, k⟩ := s
  obtain ⟨o1, o2, r1, r2, q1, q2, k1, k2⟩ := ok
  simp only at o1 o2 r1 r2 q1 q2 k1 k2 h1 hq hq0 ⊢
  subst h1
  have hp : p < w.heap.size := (Array.getElem?_eq_some_iff.1 hs).1
  have hz := zeroDgm
  go_enter Try.func11, Try.ntmps11
  go_upto_region 1 with (fail)
  generalize hW : World.alloc w _ = W
  have hs1 : ShAt W p ⟨1, own, rd, peer, q, k⟩ := by rw [← hW]; exact hs.alloc _
  have hB : W.heap[w.heap.size]? = some (.cells (dgmA 0 0 0) 34 (0, 0)) := by rw [← hW]; exact last_block0 _ _ _ rfl
  have hon : w.grownBy W (some p) := by rw [← hW]; exact only_alloc (only_refl w _) _
  have hne : w.heap.size ≠ p := by omega
  have c0 : W.cell? ⟨p, 0, none⟩ = some (.int .i64 1) := by rw [cell_of_block hs1]; rfl
  have c4 : W.cell? ⟨p, 4, none⟩ = some (.int .i64 q) := by rw [cell_of_block hs1]; rfl
  have f4 : W.frozen? ⟨p, 4, none⟩ = false := frozen_of_row W p 4 _ _ hs1
  have hs1h := hide hs1
  clear hW hs hs1 hz
  go_wp2_with fail
  refine (s_question p ⟨1, own, rd, peer, q + 1, k⟩ _ (hs1h.out.set4 (q + 1)) ⟨o1, o2, r1, r2, by simp; omega, by simp; omega, k1, k2⟩).mono ?_
  rintro e w1 ⟨rfl, hs2, hg⟩
  have hB0 := blk_set_other hB hne 4 (.int .i64 (q + 1))
  have hB1 : w1.heap[w.heap.size]? = some (.cells (dgmA 0 0 0) 34 (0, 0)) :=
    (hg.block w.heap.size (Array.getElem?_eq_some_iff.1 hB0).1 (by intro e; injection e with e; omega)).trans hB0
  have hon1 : w.grownBy w1 (some p) := only_trans (only_set hon 4 _) hg
  have hs2h := hide hs2
  clear hs2 hg hB hB0 hon c0 c4 f4
  go_wp2_with (refine wpList_store_row rfl _ _ _ rfl _ _ rfl rfl _ _ hB1 (dgm_info _ (dgmA_size _ _ _)) (dgm_sz 0 0 0 1 (tokZ own rd) 0) (dgmA_one 1 (tokZ own rd) 0) ?_)
  refine bodyPost_ret (v := .tuple #[.agg (dgmA 1 (tokZ own rd) 0), .bool true]) ?hres rfl ?hpost
  case hpost => exact ⟨rfl, hs2h.out.setRow (by omega) _, only_setRow hon1 (.inr (Nat.le_refl _)) _⟩
  case hres =>
    refine results_row_tmp rfl _ _ w.heap.size 34 (dgmA 1 (tokZ own rd) 0) (0, 0) _ (.bool true) rfl rfl ?hg Try.underlying34 rfl (dgm_info _ (dgmA_size _ _ _))
    case hg => exact setRow_heap _ _ _ _ _ _ hB1
set_option maxRecDepth 100000 in
/-- Tick, whole. -/
theorem s_tick (p : Nat) (s : ShS) (w : World) (hs : ShAt w p s) (ok : ShOk s) (hq0 : s.q ≤ 999999) :
    Calls Try.prog 11 #[.pointer (some ⟨p, 0, none⟩)] w (ShPost w p (shTick s).1 (.tuple #[dV (shTick s).2.1, .bool (shTick s).2.2])) := by
  unfold shTick
  by_cases h1 : s.st = 1
  · rw [if_neg (by simp [h1])]
    by_cases hq : s.q + 1 < 10
    · rw [if_pos hq]; exact s_tick_wait p s w hs ok h1 hq
    · rw [if_neg hq]; exact s_tick_ask p s w hs ok h1 (by omega) hq0
  · rw [if_pos h1]; exact s_tick_no p s w hs ok h1

/-! ### the law's awake -/
/-- the state behind i answers -/
def awS (i : Nat) : ShS := ⟨if i < 4 then 1 else 2, 7, i, 0, 0, if i < 4 then 1 + i else 4⟩
set_option maxRecDepth 100000 in
theorem awS_ok (i : Nat) (h : i ≤ 4) : ShOk (awS i) := by
  unfold awS
  exact ⟨by simp, by simp, by simp, by simp; omega, by simp, by simp, by simp; split <;> omega, by simp; split <;> omega⟩
set_option maxRecDepth 100000 in
theorem awS_next (i : Nat) (h : i < 4) : (shTake (awS i) 1 0 (tokZ 7 i)).1 = awS (i + 1) := by
  unfold shTake awS
  rcases (show i = 0 ∨ i = 1 ∨ i = 2 ∨ i = 3 by omega) with rfl | rfl | rfl | rfl <;> simp
set_option maxRecDepth 100000 in
theorem awS_zero : awS 0 = ⟨1, 7, 0, 0, 0, 1⟩ := rfl
def awD (i : Nat) : DgS := ⟨1, 0, 0, 0, 0, 0, tokZ 7 i, 0, 0, 0, .slice none 0 0⟩
attribute [local irreducible] awS
set_option maxRecDepth 100000 in
set_option maxHeartbeats 1000000 in
theorem shake_awake (w : World) :
    Calls Try.prog 6 #[] w fun e w' => e = .returned (.bool true) ∧ Below w.heap.size w w' := by
  have hz := zeroDgm
  go_enter Try.func6, Try.ntmps6
  go_wp2_with fail
  refine (s_new 7 w).mono ?_
  rintro e w1 ⟨rfl, hw1⟩
  have hs1 : ShAt w1 w.heap.size ⟨0, 7, 0, 0, 0, 0⟩ := by rw [hw1]; exact last_block0 _ _ _ rfl
  have hb1 : Below w.heap.size w w1 := by rw [hw1]; exact (Below.refl _ _).alloc (Nat.le_refl _) _
  have hl1 : w.heap.size < w1.heap.size := (Array.getElem?_eq_some_iff.1 hs1).1
  have hs1h := hide hs1
  clear hw1 hs1
  go_wp2_with fail
  refine (s_start w.heap.size ⟨0, 7, 0, 0, 0, 0⟩ w1 hs1h.out ⟨by simp, by simp, by simp, by simp, by simp, by simp, by simp, by simp⟩ rfl).mono ?_
  rintro e w2 ⟨rfl, hs2, hg2⟩
  have hb2 : Below w.heap.size w w2 := below_of_only hb1 hg2 (Nat.le_of_lt hl1) (Nat.le_refl _)
  have hl2 : w.heap.size < w2.heap.size := (Array.getElem?_eq_some_iff.1 hs2).1
  have hB2 := last_block0 w2 (.cells (dgmA 0 0 0) 34) w2.heap.size rfl
  have hs2h : Hid (ShAt w2 w.heap.size (awS 0)) := hide (by rw [awS_zero]; exact hs2)
  clear hs2 hg2
  go_upto_region 5 with (refine wpList_store_row rfl _ _ _ rfl _ _ rfl rfl _ _ hB2 (dgm_info _ (dgmA_size _ _ _)) (dgm_sz 0 0 0 _ _ _) (dgmA_one _ _ _) ?_)
  generalize hW : World.setRow _ _ _ = W
  have hs3 : ShAt W w.heap.size (awS 0) := by rw [← hW]; exact (hs2h.out.alloc _).setRow (by omega) _
  have hb3 : Below w.heap.size w W := by rw [← hW]; exact below_setRow (hb2.alloc (Nat.le_of_lt hl2) _) (Nat.le_of_lt hl2) _
  clear hW hB2 hz
  go_wp2_with fail
  go_loopw [4] (fun i wr => ∃ j : Nat, j ≤ 4 ∧ i = .int .i64 j ∧ ShAt wr w.heap.size (awS j) ∧ Below w.heap.size w wr) (fun i _ => 4 - (intOf i).toNat)
  case atStart => exact ⟨0, by omega, rfl, hs3, hb3⟩
  case round =>
    obtain ⟨j, hj, rfl, hs, hb⟩ := hrel
    have hsh := hide hs
    have hl : w.heap.size < wr.heap.size := (Array.getElem?_eq_some_iff.1 hs).1
    by_cases hlt : j < 4
    · clear hs
      go_wp2_with fail
      refine (s_token 7 j _ (by omega) (by omega)).mono ?_
      rintro e w' ⟨rfl, rfl⟩
      go_wp2_with fail
      refine Calls.mono (s_take w.heap.size (awS j) (awD j) _ hsh.out (awS_ok j hj)) ?_
      rintro e w4 ⟨rfl, hs4, hg4⟩
      have hs5 : ShAt w4 w.heap.size (awS (j + 1)) := by rw [← awS_next j hlt]; exact hs4
      have hb5 : Below w.heap.size w w4 := below_of_only hb hg4 (Nat.le_of_lt hl) (Nat.le_refl _)
      have hs5h := hide hs5
      clear hs4 hg4 hs5
      go_wp2_with fail
      go_roundw
      case rel => exact ⟨j + 1, by omega, by go_num, hs5h.out, hb5⟩
      case measure => simp [intOf]; omega
    · obtain rfl : j = 4 := by omega
      have c0 : wr.cell? ⟨w.heap.size, 0, none⟩ = some (.int .i64 2) := by rw [cell_of_block hs]; unfold awS; rfl
      clear hs
      go_wp2_with fail
      go_ret
      exact ⟨rfl, hb⟩
end Go.Proofs.Ytdpngimcmohmaaa
