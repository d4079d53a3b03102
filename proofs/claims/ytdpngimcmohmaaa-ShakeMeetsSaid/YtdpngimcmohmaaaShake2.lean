/- More contracts of package shake: Start, answer, Take, Tick, End, Share. Conditions: the state lies at the pointer, its numbers are of their kinds and not too great. -/
import Derived.Test.YtdpngimcmohmaaaShake
namespace Go.Proofs.Ytdpngimcmohmaaa
open Go.RowKit
attribute [local irreducible] tokZ
def zD : Array Value := #[.int .i64 0, .int .u32 0, .int .u32 0, .int .i64 0, .int .u32 0, .int .u32 0, .int .u32 0, .int .i64 0, .int .i64 0, .int .i64 0, .slice none 0 0]
set_option maxRecDepth 100000 in
theorem zD_eq : zD = dgmA 0 0 0 := rfl
set_option maxRecDepth 100000 in
theorem dgmA_size (k a b : Int) : (dgmA k a b).size = 11 := rfl
set_option maxRecDepth 100000 in
theorem dgmA_one (k a b : Int) : (dgmA k a b).all (·.oneCell') = true := by simp [dgmA, Value.oneCell']
set_option maxRecDepth 100000 in
theorem dgm_sz (k a b k' a' b' : Int) : (dgmA k a b).size = (dgmA k' a' b').size := rfl

set_option maxRecDepth 100000 in
set_option maxHeartbeats 1000000 in
theorem s_start_no (p : Nat) (s : ShS) (w : World) (hs : ShAt w p s) (hst : s.st ≠ 0) :
    Calls Try.prog 10 #[.pointer (some ⟨p, 0, none⟩)] w (ShPost w p s (.tuple #[.agg (dgmA 0 0 0), .int .i64 270])) := by
  obtain ⟨st, own, rd, peer, q, k⟩ := s
  simp only at hst ⊢
  have hp : p < w.heap.size := (Array.getElem?_eq_some_iff.1 hs).1
  have c0 : w.cell? ⟨p, 0, none⟩ = some (.int .i64 st) := by rw [cell_of_block hs]; rfl
  have e0 : (st == 0) = false := by simp; exact hst
  have hz := zeroDgm
  have hsh := hide hs
  clear hs hst
  go_enter Try.func10, Try.ntmps10
  go_wp2_with fail
  refine bodyPost_ret (v := .tuple #[.agg (dgmA 0 0 0), .int .i64 270]) ?hres rfl ?hpost
  case hpost => exact ⟨rfl, hsh.out.alloc _, only_alloc (only_refl w _) _⟩
  case hres =>
    refine results_row_tmp rfl _ _ w.heap.size 34 (dgmA 0 0 0) (0, 0) _ (.int .i64 270) rfl rfl ?hg Try.underlying34 rfl (dgm_info _ (dgmA_size _ _ _))
    case hg => exact last_block0 _ _ _ rfl
set_option maxRecDepth 100000 in
set_option maxHeartbeats 1000000 in
theorem s_start (p : Nat) (s : ShS) (w : World) (hs : ShAt w p s) (ok : ShOk s) (hst : s.st = 0) :
    Calls Try.prog 10 #[.pointer (some ⟨p, 0, none⟩)] w (ShPost w p { s with st := 1, k := s.k + 1, q := 0 } (.tuple #[.agg (dgmA 1 (tokZ s.own s.rd) 0), .int .i64 0])) := by
  obtain ⟨st, own, rd, peer, q, k⟩ := s
  simp only at hst ⊢
  subst hst
  have hp : p < w.heap.size := (Array.getElem?_eq_some_iff.1 hs).1
  have c0 : w.cell? ⟨p, 0, none⟩ = some (.int .i64 0) := by rw [cell_of_block hs]; rfl
  have f0 : w.frozen? ⟨p, 0, none⟩ = false := frozen_of_row w p 0 _ _ hs
  have hz := zeroDgm
  have hsh := hide hs
  have okh : Hid (ShOk ⟨1, own, rd, peer, q, k⟩) := hide ⟨ok.o1, ok.o2, ok.r1, ok.r2, ok.q1, ok.q2, ok.k1, ok.k2⟩
  clear hs ok
  go_enter Try.func10, Try.ntmps10
  go_wp2_with fail
  refine (s_question p ⟨1, own, rd, peer, q, k⟩ _ ((hsh.out.set0 1).alloc _) okh.out).mono ?_
  rintro e w1 ⟨rfl, hs1, hg⟩
  have hB : w1.heap[w.heap.size]? = some (.cells (dgmA 0 0 0) 34 (0, 0)) :=
    (hg.block w.heap.size (by simp [World.setCell]) (by intro e; injection e with e; omega)).trans (last_block0 _ _ _ (by simp [World.setCell]))
  have hon : w.grownBy w1 (some p) := only_trans (only_alloc (only_set (only_refl w _) 0 _) _) hg
  have hs1h := hide hs1
  clear hs1 hg c0 f0 hz
  go_wp2_with (refine wpList_store_row rfl _ _ _ rfl _ _ rfl rfl _ _ hB (dgm_info _ (dgmA_size _ _ _)) (dgm_sz _ _ _ _ _ _) (dgmA_one _ _ _) ?_)
  refine bodyPost_ret (v := .tuple #[.agg (dgmA 1 (tokZ own rd) 0), .int .i64 0]) ?hres rfl ?hpost
  case hpost => exact ⟨rfl, hs1h.out.setRow (by omega) _, only_setRow hon (.inr (Nat.le_refl _)) _⟩
  case hres =>
    refine results_row_tmp rfl _ _ w.heap.size 34 (dgmA 1 (tokZ own rd) 0) (0, 0) _ (.int .i64 0) rfl rfl ?hg Try.underlying34 rfl (dgm_info _ (dgmA_size _ _ _))
    case hg => exact setRow_heap _ _ _ _ _ _ hB
end Go.Proofs.Ytdpngimcmohmaaa
