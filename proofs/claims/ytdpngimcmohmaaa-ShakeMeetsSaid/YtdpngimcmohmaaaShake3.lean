/- The contracts of package shake's answer. Conditions: the state lies at the pointer, its numbers are of their kinds and not too great. -/
import Derived.Test.YtdpngimcmohmaaaShake2
namespace Go.Proofs.Ytdpngimcmohmaaa
open Go.RowKit
attribute [local irreducible] tokZ
set_option maxRecDepth 100000 in
set_option maxHeartbeats 1000000 in
theorem s_answer_run (p : Nat) (s : ShS) (b : Int) (w : World) (hs : ShAt w p s) (ok : ShOk s) (hst : s.st = 2) :
    Calls Try.prog 17 #[.pointer (some ⟨p, 0, none⟩), .int .u32 b] w (ShPost w p s (.tuple #[.agg (dgmA 0 0 0), .bool false, .int .i64 280])) := by
  obtain ⟨st, own, rd, peer, q, k⟩ := s
  obtain ⟨o1, o2, r1, r2, q1, q2, k1, k2⟩ := ok
  simp only at o1 o2 r1 r2 q1 q2 k1 k2 hst ⊢
  have hp : p < w.heap.size := (Array.getElem?_eq_some_iff.1 hs).1
  have c0 : w.cell? ⟨p, 0, none⟩ = some (.int .i64 st) := by rw [cell_of_block hs]; rfl
  have c1 : w.cell? ⟨p, 1, none⟩ = some (.int .u32 own) := by rw [cell_of_block hs]; rfl
  have c2 : w.cell? ⟨p, 2, none⟩ = some (.int .i64 rd) := by rw [cell_of_block hs]; rfl
  have hz := zeroDgm
  have hsh := hide hs
  subst hst
  clear hs
  go_enter Try.func17, Try.ntmps17
  go_wp2_with fail
  go_quiet (fail)
  generalize hW : (World.alloc w _).drewN _ = W
  have hs1 : ShAt W p ⟨2, own, rd, peer, q, k⟩ := by rw [← hW]; exact (hsh.out.alloc _).drewN _
  have hB : W.heap[w.heap.size]? = some (.cells (dgmA 0 0 0) 34 (0, 0)) := by rw [← hW]; exact blk_drewN (last_block0 _ _ _ rfl) _
  have hon : w.grownBy W (some p) := by rw [← hW]; exact only_drewN (only_alloc (only_refl w _) _) _
  have hne : w.heap.size ≠ p := by omega
  clear hW c0 c1 c2
  clear hsh hz
  go_wp2_with (refine wpList_store_row rfl _ _ _ rfl _ _ rfl rfl _ _ hB (dgm_info _ (dgmA_size _ _ _)) (dgm_sz 0 0 0 0 0 0) (dgmA_one 0 0 0) ?_)
  refine bodyPost_ret (v := .tuple #[.agg (dgmA 0 0 0), .bool false, .int .i64 280]) ?hres rfl ?hpost
  case hpost => exact ⟨rfl, hs1.setRow (by omega) _, only_setRow hon (.inr (Nat.le_refl _)) _⟩
  case hres =>
    refine results_row_tmp2 rfl _ _ w.heap.size 34 (dgmA 0 0 0) (0, 0) _ (.bool false) (.int .i64 280) rfl rfl rfl ?hg Try.underlying34 rfl (dgm_info _ (dgmA_size _ _ _))
    case hg => exact setRow_heap _ _ _ _ _ _ hB
set_option maxRecDepth 100000 in
set_option maxHeartbeats 1000000 in
theorem s_answer_bad (p : Nat) (s : ShS) (b : Int) (w : World) (hs : ShAt w p s) (ok : ShOk s) (hst : s.st ≠ 2) (hb : b ≠ tokZ s.own s.rd) :
    Calls Try.prog 17 #[.pointer (some ⟨p, 0, none⟩), .int .u32 b] w (ShPost w p s (.tuple #[.agg (dgmA 0 0 0), .bool false, .int .i64 280])) := by
  obtain ⟨st, own, rd, peer, q, k⟩ := s
  obtain ⟨o1, o2, r1, r2, q1, q2, k1, k2⟩ := ok
  simp only at o1 o2 r1 r2 q1 q2 k1 k2 hst hb ⊢
  have hp : p < w.heap.size := (Array.getElem?_eq_some_iff.1 hs).1
  have c0 : w.cell? ⟨p, 0, none⟩ = some (.int .i64 st) := by rw [cell_of_block hs]; rfl
  have c1 : w.cell? ⟨p, 1, none⟩ = some (.int .u32 own) := by rw [cell_of_block hs]; rfl
  have c2 : w.cell? ⟨p, 2, none⟩ = some (.int .i64 rd) := by rw [cell_of_block hs]; rfl
  have hz := zeroDgm
  have hsh := hide hs
  have e2 : (st == 2) = false := by simp; exact hst
  have eb : (b == tokZ own rd) = false := by simp; exact hb
  have eb2 : (b != tokZ own rd) = true := by simp; exact hb
  clear hst hb
  clear hs
  go_enter Try.func17, Try.ntmps17
  go_wp2_with fail
  go_quiet ((go_at_call 7; exact quiet_left (s_token own rd _ o1 o2)))
  generalize hW : (World.alloc w _).drewN _ = W
  have hs1 : ShAt W p ⟨st, own, rd, peer, q, k⟩ := by rw [← hW]; exact (hsh.out.alloc _).drewN _
  have hB : W.heap[w.heap.size]? = some (.cells (dgmA 0 0 0) 34 (0, 0)) := by rw [← hW]; exact blk_drewN (last_block0 _ _ _ rfl) _
  have hon : w.grownBy W (some p) := by rw [← hW]; exact only_drewN (only_alloc (only_refl w _) _) _
  have hne : w.heap.size ≠ p := by omega
  clear hW c0 c1 c2
  clear hsh hz
  go_wp2_with (refine wpList_store_row rfl _ _ _ rfl _ _ rfl rfl _ _ hB (dgm_info _ (dgmA_size _ _ _)) (dgm_sz 0 0 0 0 0 0) (dgmA_one 0 0 0) ?_)
  refine bodyPost_ret (v := .tuple #[.agg (dgmA 0 0 0), .bool false, .int .i64 280]) ?hres rfl ?hpost
  case hpost => exact ⟨rfl, hs1.setRow (by omega) _, only_setRow hon (.inr (Nat.le_refl _)) _⟩
  case hres =>
    refine results_row_tmp2 rfl _ _ w.heap.size 34 (dgmA 0 0 0) (0, 0) _ (.bool false) (.int .i64 280) rfl rfl rfl ?hg Try.underlying34 rfl (dgm_info _ (dgmA_size _ _ _))
    case hg => exact setRow_heap _ _ _ _ _ _ hB
set_option maxRecDepth 100000 in
set_option maxHeartbeats 1000000 in
theorem s_answer_next (p : Nat) (s : ShS) (w : World) (hs : ShAt w p s) (ok : ShOk s) (hst : s.st ≠ 2) (hr : s.rd + 1 < 4) :
    Calls Try.prog 17 #[.pointer (some ⟨p, 0, none⟩), .int .u32 (tokZ s.own s.rd)] w (ShPost w p { s with rd := s.rd + 1, k := s.k + 1, q := 0 } (.tuple #[.agg (dgmA 1 (tokZ s.own (s.rd + 1)) 0), .bool true, .int .i64 0])) := by
  obtain ⟨st, own, rd, peer, q, k⟩ := s
  obtain ⟨o1, o2, r1, r2, q1, q2, k1, k2⟩ := ok
  simp only at o1 o2 r1 r2 q1 q2 k1 k2 hst hr ⊢
  have hp : p < w.heap.size := (Array.getElem?_eq_some_iff.1 hs).1
  have c0 : w.cell? ⟨p, 0, none⟩ = some (.int .i64 st) := by rw [cell_of_block hs]; rfl
  have c1 : w.cell? ⟨p, 1, none⟩ = some (.int .u32 own) := by rw [cell_of_block hs]; rfl
  have c2 : w.cell? ⟨p, 2, none⟩ = some (.int .i64 rd) := by rw [cell_of_block hs]; rfl
  have f2 : w.frozen? ⟨p, 2, none⟩ = false := frozen_of_row w p 2 _ _ hs
  have hz := zeroDgm
  have hsh := hide hs
  have e2 : (st == 2) = false := by simp; exact hst
  have okq : Hid (ShOk ⟨st, own, rd + 1, peer, q, k⟩) := hide ⟨by simp; omega, by simp; omega, by simp; omega, by simp; omega, by simp; omega, by simp; omega, by simp; omega, by simp; omega⟩
  clear hs hst
  go_enter Try.func17, Try.ntmps17
  go_wp2_with fail
  go_quiet ((go_at_call 7; exact quiet_left (s_token own rd _ o1 o2)))
  generalize hW : (World.alloc w _).drewN _ = W
  have hs1 : ShAt W p ⟨st, own, rd, peer, q, k⟩ := by rw [← hW]; exact (hsh.out.alloc _).drewN _
  have hB : W.heap[w.heap.size]? = some (.cells (dgmA 0 0 0) 34 (0, 0)) := by rw [← hW]; exact blk_drewN (last_block0 _ _ _ rfl) _
  have hon : w.grownBy W (some p) := by rw [← hW]; exact only_drewN (only_alloc (only_refl w _) _) _
  have hne : w.heap.size ≠ p := by omega
  clear hW c0 c1 c2
  have c2 : W.cell? ⟨p, 2, none⟩ = some (.int .i64 rd) := by rw [cell_of_block hs1]; rfl
  have f2 : W.frozen? ⟨p, 2, none⟩ = false := frozen_of_row W p 2 _ _ hs1
  go_wp2_with fail
  refine (s_question p ⟨st, own, rd + 1, peer, q, k⟩ _ (hs1.set2 (rd + 1)) okq.out).mono ?_
  rintro e w1 ⟨rfl, hs1', hg⟩
  have hB1 : w1.heap[w.heap.size]? = some (.cells (dgmA 0 0 0) 34 (0, 0)) :=
    (hg.block w.heap.size (Array.getElem?_eq_some_iff.1 (blk_set_other hB hne 2 (.int .i64 (rd + 1)))).1 (by intro e; injection e with e; omega)).trans (blk_set_other hB hne 2 (.int .i64 (rd + 1)))
  have hon1 : w.grownBy w1 (some p) := only_trans (only_set hon 2 _) hg
  have hs1h := hide hs1'
  clear hs1' hg c2 f2 hz hs1 hB hon
  go_wp2_with (refine wpList_store_row rfl _ _ _ rfl _ _ rfl rfl _ _ hB1 (dgm_info _ (dgmA_size _ _ _)) (dgm_sz _ _ _ _ _ _) (dgmA_one _ _ _) ?_)
  refine bodyPost_ret (v := .tuple #[.agg (dgmA 1 (tokZ own (rd + 1)) 0), .bool true, .int .i64 0]) ?hres rfl ?hpost
  case hpost => exact ⟨rfl, hs1h.out.setRow (by omega) _, only_setRow hon1 (.inr (Nat.le_refl _)) _⟩
  case hres =>
    refine results_row_tmp2 rfl _ _ w.heap.size 34 (dgmA 1 (tokZ own (rd + 1)) 0) (0, 0) _ (.bool true) (.int .i64 0) rfl rfl rfl ?hg Try.underlying34 rfl (dgm_info _ (dgmA_size _ _ _))
    case hg => exact setRow_heap _ _ _ _ _ _ hB1
set_option maxRecDepth 100000 in
set_option maxHeartbeats 1000000 in
theorem s_answer_last (p : Nat) (s : ShS) (w : World) (hs : ShAt w p s) (ok : ShOk s) (hst : s.st ≠ 2) (hr : 4 ≤ s.rd + 1) :
    Calls Try.prog 17 #[.pointer (some ⟨p, 0, none⟩), .int .u32 (tokZ s.own s.rd)] w (ShPost w p { s with rd := s.rd + 1, st := 2 } (.tuple #[.agg (dgmA 0 0 0), .bool false, .int .i64 0])) := by
  obtain ⟨st, own, rd, peer, q, k⟩ := s
  obtain ⟨o1, o2, r1, r2, q1, q2, k1, k2⟩ := ok
  simp only at o1 o2 r1 r2 q1 q2 k1 k2 hst hr ⊢
  have hp : p < w.heap.size := (Array.getElem?_eq_some_iff.1 hs).1
  have c0 : w.cell? ⟨p, 0, none⟩ = some (.int .i64 st) := by rw [cell_of_block hs]; rfl
  have c1 : w.cell? ⟨p, 1, none⟩ = some (.int .u32 own) := by rw [cell_of_block hs]; rfl
  have c2 : w.cell? ⟨p, 2, none⟩ = some (.int .i64 rd) := by rw [cell_of_block hs]; rfl
  have f0 : w.frozen? ⟨p, 0, none⟩ = false := frozen_of_row w p 0 _ _ hs
  have f2 : w.frozen? ⟨p, 2, none⟩ = false := frozen_of_row w p 2 _ _ hs
  have hz := zeroDgm
  have hsh := hide hs
  have e2 : (st == 2) = false := by simp; exact hst
  clear hs hst
  go_enter Try.func17, Try.ntmps17
  go_wp2_with fail
  go_quiet ((go_at_call 7; exact quiet_left (s_token own rd _ o1 o2)))
  generalize hW : (World.alloc w _).drewN _ = W
  have hs1 : ShAt W p ⟨st, own, rd, peer, q, k⟩ := by rw [← hW]; exact (hsh.out.alloc _).drewN _
  have hB : W.heap[w.heap.size]? = some (.cells (dgmA 0 0 0) 34 (0, 0)) := by rw [← hW]; exact blk_drewN (last_block0 _ _ _ rfl) _
  have hon : w.grownBy W (some p) := by rw [← hW]; exact only_drewN (only_alloc (only_refl w _) _) _
  have hne : w.heap.size ≠ p := by omega
  clear hW c0 c1 c2
  have c2 : W.cell? ⟨p, 2, none⟩ = some (.int .i64 rd) := by rw [cell_of_block hs1]; rfl
  have f2' : W.frozen? ⟨p, 2, none⟩ = false := frozen_of_row W p 2 _ _ hs1
  have c0 : W.cell? ⟨p, 0, none⟩ = some (.int .i64 st) := by rw [cell_of_block hs1]; rfl
  have f0' : W.frozen? ⟨p, 0, none⟩ = false := frozen_of_row W p 0 _ _ hs1
  have hB2 := blk_set_other (blk_set_other hB hne 2 (.int .i64 (rd + 1))) hne 0 (.int .i64 2)
  clear hB
  go_wp2_with (refine wpList_store_row rfl _ _ _ rfl _ _ rfl rfl _ _ hB2 (dgm_info _ (dgmA_size _ _ _)) (dgm_sz 0 0 0 0 0 0) (dgmA_one 0 0 0) ?_)
  refine bodyPost_ret (v := .tuple #[.agg (dgmA 0 0 0), .bool false, .int .i64 0]) ?hres rfl ?hpost
  case hpost => exact ⟨rfl, ((hs1.set2 (rd + 1)).set0 2).setRow (by omega) _, only_setRow (only_set (only_set hon 2 _) 0 _) (.inr (Nat.le_refl _)) _⟩
  case hres =>
    refine results_row_tmp2 rfl _ _ w.heap.size 34 (dgmA 0 0 0) (0, 0) _ (.bool false) (.int .i64 0) rfl rfl rfl ?hg Try.underlying34 rfl (dgm_info _ (dgmA_size _ _ _))
    case hg => exact setRow_heap _ _ _ _ _ _ hB2
end Go.Proofs.Ytdpngimcmohmaaa
