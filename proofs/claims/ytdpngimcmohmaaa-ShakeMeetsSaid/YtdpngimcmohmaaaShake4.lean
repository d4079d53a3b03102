/- The contracts of package shake's Take, Tick, End. Conditions: the state lies at the pointer, its numbers are of their kinds and not too great; the datagram's numbers are of their kinds. -/
import Derived.Test.YtdpngimcmohmaaaShake3
namespace Go.Proofs.Ytdpngimcmohmaaa
open Go.RowKit
/-- what Take does to the state, and answers -/
def shTake (s : ShS) (kind a b : Int) : ShS × (Int × Int × Int) × Bool × Int :=
  if kind ≠ 1 then (s, (0, 0, 0), false, 72)
  else if s.st ≠ 1 ∧ s.st ≠ 2 then (s, (0, 0, 0), false, 270)
  else if a ≠ 0 then ({ s with peer := a }, (1, 0, a), true, 0)
  else if s.st = 2 ∨ b ≠ tokZ s.own s.rd then (s, (0, 0, 0), false, 280)
  else if s.rd + 1 < 4 then ({ s with rd := s.rd + 1, k := s.k + 1, q := 0 }, (1, tokZ s.own (s.rd + 1), 0), true, 0)
  else ({ s with rd := s.rd + 1, st := 2 }, (0, 0, 0), false, 0)
def dV (x : Int × Int × Int) : Value := .agg (dgmA x.1 x.2.1 x.2.2)
/-- any datagram -/
structure DgS where
  kind : Int
  ses : Int
  seq : Int
  path : Int
  tick : Int
  a : Int
  b : Int
  kk : Int
  m : Int
  ix : Int
  data : Value
def dgA (d : DgS) : Array Value := #[.int .i64 d.kind, .int .u32 d.ses, .int .u32 d.seq, .int .i64 d.path, .int .u32 d.tick, .int .u32 d.a, .int .u32 d.b, .int .i64 d.kk, .int .i64 d.m, .int .i64 d.ix, d.data]
attribute [local irreducible] tokZ
set_option maxRecDepth 100000 in
set_option maxHeartbeats 1000000 in
theorem s_take_kind (p : Nat) (s : ShS) (d : DgS) (w : World) (hs : ShAt w p s) (ok : ShOk s) (hk : d.kind ≠ 1) :
    Calls Try.prog 12 #[.pointer (some ⟨p, 0, none⟩), .agg (dgA d)] w (ShPost w p s (.tuple #[.agg (dgmA 0 0 0), .bool false, .int .i64 72])) := by
  obtain ⟨st, own, rd, peer, q, k⟩ := s
  obtain ⟨kind, ses, seq, path, tick, a, b, kk, m, ix, data⟩ := d
  simp only [dgA] at hk ⊢
  have okh := hide ok
  clear ok
  have ek : (kind == 1) = false := by simp; exact hk
  have ek2 : (kind != 1) = true := by simp; exact hk
  clear hk
  have hp : p < w.heap.size := (Array.getElem?_eq_some_iff.1 hs).1
  have hz := zeroDgm
  go_enter Try.func12, Try.ntmps12
  go_upto_region 1 with (fail)
  generalize hW : (World.alloc w (.cells #[.int .i64 kind, .int .u32 ses, .int .u32 seq, .int .i64 path, .int .u32 tick, .int .u32 a, .int .u32 b, .int .i64 kk, .int .i64 m, .int .i64 ix, data] 34)).alloc _ = W
  have hs1 : ShAt W p ⟨st, own, rd, peer, q, k⟩ := by rw [← hW]; exact (hs.alloc _).alloc _
  have hD : W.heap[w.heap.size]? = some (.cells #[.int .i64 kind, .int .u32 ses, .int .u32 seq, .int .i64 path, .int .u32 tick, .int .u32 a, .int .u32 b, .int .i64 kk, .int .i64 m, .int .i64 ix, data] 34 (0, 0)) := by rw [← hW]; exact blk_alloc (last_block0 _ _ _ rfl) _
  have hB : W.heap[w.heap.size + 1]? = some (.cells (dgmA 0 0 0) 34 (0, 0)) := by rw [← hW]; exact last_block0 _ _ _ (by simp)
  have hon : w.grownBy W (some p) := by rw [← hW]; exact only_alloc (only_alloc (only_refl w _) _) _
  have hne : w.heap.size + 1 ≠ p := by omega
  have d0 : W.cell? ⟨w.heap.size, 0, none⟩ = some (.int .i64 kind) := by rw [cell_of_block hD]; rfl
  have d5 : W.cell? ⟨w.heap.size, 5, none⟩ = some (.int .u32 a) := by rw [cell_of_block hD]; rfl
  have d6 : W.cell? ⟨w.heap.size, 6, none⟩ = some (.int .u32 b) := by rw [cell_of_block hD]; rfl
  have c0 : W.cell? ⟨p, 0, none⟩ = some (.int .i64 st) := by rw [cell_of_block hs1]; rfl
  have hs1h := hide hs1
  clear hW hs hD hs1 hz
  go_wp2_with (refine wpList_store_row rfl _ _ _ rfl _ _ rfl rfl _ _ hB (dgm_info _ (dgmA_size _ _ _)) (dgm_sz 0 0 0 0 0 0) (dgmA_one 0 0 0) ?_)
  refine bodyPost_ret (v := .tuple #[.agg (dgmA 0 0 0), .bool false, .int .i64 72]) ?hres rfl ?hpost
  case hpost => exact ⟨rfl, hs1h.out.setRow (by omega) _, only_setRow hon (.inr (by omega)) _⟩
  case hres =>
    refine results_row_tmp2 rfl _ _ (w.heap.size + 1) 34 (dgmA 0 0 0) (0, 0) _ (.bool false) (.int .i64 72) rfl rfl rfl ?hg Try.underlying34 rfl (dgm_info _ (dgmA_size _ _ _))
    case hg => exact setRow_heap _ _ _ _ _ _ hB
set_option maxRecDepth 100000 in
set_option maxHeartbeats 1000000 in
theorem s_take_state (p : Nat) (s : ShS) (d : DgS) (w : World) (hs : ShAt w p s) (ok : ShOk s) (hk : d.kind = 1) (h1 : s.st ≠ 1) (h2 : s.st ≠ 2) :
    Calls Try.prog 12 #[.pointer (some ⟨p, 0, none⟩), .agg (dgA d)] w (ShPost w p s (.tuple #[.agg (dgmA 0 0 0), .bool false, .int .i64 270])) := by
  obtain ⟨st, own, rd, peer, q, k⟩ := s
  obtain ⟨kind, ses, seq, path, tick, a, b, kk, m, ix, data⟩ := d
  simp only [dgA] at hk h1 h2 ⊢
  have okh := hide ok
  clear ok
  subst hk
  have e1 : (st == 1) = false := by simp; exact h1
  have e2 : (st == 2) = false := by simp; exact h2
  have e12 : (st != 1) = true := by simp; exact h1
  have e22 : (st != 2) = true := by simp; exact h2
  clear h1 h2
  have hp : p < w.heap.size := (Array.getElem?_eq_some_iff.1 hs).1
  have hz := zeroDgm
  go_enter Try.func12, Try.ntmps12
  go_upto_region 1 with (fail)
  generalize hW : (World.alloc w (.cells #[.int .i64 1, .int .u32 ses, .int .u32 seq, .int .i64 path, .int .u32 tick, .int .u32 a, .int .u32 b, .int .i64 kk, .int .i64 m, .int .i64 ix, data] 34)).alloc _ = W
  have hs1 : ShAt W p ⟨st, own, rd, peer, q, k⟩ := by rw [← hW]; exact (hs.alloc _).alloc _
  have hD : W.heap[w.heap.size]? = some (.cells #[.int .i64 1, .int .u32 ses, .int .u32 seq, .int .i64 path, .int .u32 tick, .int .u32 a, .int .u32 b, .int .i64 kk, .int .i64 m, .int .i64 ix, data] 34 (0, 0)) := by rw [← hW]; exact blk_alloc (last_block0 _ _ _ rfl) _
  have hB : W.heap[w.heap.size + 1]? = some (.cells (dgmA 0 0 0) 34 (0, 0)) := by rw [← hW]; exact last_block0 _ _ _ (by simp)
  have hon : w.grownBy W (some p) := by rw [← hW]; exact only_alloc (only_alloc (only_refl w _) _) _
  have hne : w.heap.size + 1 ≠ p := by omega
  have d0 : W.cell? ⟨w.heap.size, 0, none⟩ = some (.int .i64 1) := by rw [cell_of_block hD]; rfl
  have d5 : W.cell? ⟨w.heap.size, 5, none⟩ = some (.int .u32 a) := by rw [cell_of_block hD]; rfl
  have d6 : W.cell? ⟨w.heap.size, 6, none⟩ = some (.int .u32 b) := by rw [cell_of_block hD]; rfl
  have c0 : W.cell? ⟨p, 0, none⟩ = some (.int .i64 st) := by rw [cell_of_block hs1]; rfl
  have hs1h := hide hs1
  clear hW hs hD hs1 hz
  go_wp2_with (refine wpList_store_row rfl _ _ _ rfl _ _ rfl rfl _ _ hB (dgm_info _ (dgmA_size _ _ _)) (dgm_sz 0 0 0 0 0 0) (dgmA_one 0 0 0) ?_)
  refine bodyPost_ret (v := .tuple #[.agg (dgmA 0 0 0), .bool false, .int .i64 270]) ?hres rfl ?hpost
  case hpost => exact ⟨rfl, hs1h.out.setRow (by omega) _, only_setRow hon (.inr (by omega)) _⟩
  case hres =>
    refine results_row_tmp2 rfl _ _ (w.heap.size + 1) 34 (dgmA 0 0 0) (0, 0) _ (.bool false) (.int .i64 270) rfl rfl rfl ?hg Try.underlying34 rfl (dgm_info _ (dgmA_size _ _ _))
    case hg => exact setRow_heap _ _ _ _ _ _ hB
set_option maxRecDepth 100000 in
set_option maxHeartbeats 1000000 in
theorem s_take_ask1 (p : Nat) (s : ShS) (d : DgS) (w : World) (hs : ShAt w p s) (ok : ShOk s) (hk : d.kind = 1) (h1 : s.st = 1) (ha : d.a ≠ 0) :
    Calls Try.prog 12 #[.pointer (some ⟨p, 0, none⟩), .agg (dgA d)] w (ShPost w p { s with peer := d.a } (.tuple #[.agg (dgmA 1 0 d.a), .bool true, .int .i64 0])) := by
  obtain ⟨st, own, rd, peer, q, k⟩ := s
  obtain ⟨kind, ses, seq, path, tick, a, b, kk, m, ix, data⟩ := d
  simp only [dgA] at hk h1 ha ⊢
  have okh := hide ok
  clear ok
  subst hk
  subst h1
  have ea : (a == 0) = false := by simp; exact ha
  have ea2 : (a != 0) = true := by simp; exact ha
  clear ha
  have hp : p < w.heap.size := (Array.getElem?_eq_some_iff.1 hs).1
  have hz := zeroDgm
  go_enter Try.func12, Try.ntmps12
  go_upto_region 1 with (fail)
  generalize hW : (World.alloc w (.cells #[.int .i64 1, .int .u32 ses, .int .u32 seq, .int .i64 path, .int .u32 tick, .int .u32 a, .int .u32 b, .int .i64 kk, .int .i64 m, .int .i64 ix, data] 34)).alloc _ = W
  have hs1 : ShAt W p ⟨1, own, rd, peer, q, k⟩ := by rw [← hW]; exact (hs.alloc _).alloc _
  have hD : W.heap[w.heap.size]? = some (.cells #[.int .i64 1, .int .u32 ses, .int .u32 seq, .int .i64 path, .int .u32 tick, .int .u32 a, .int .u32 b, .int .i64 kk, .int .i64 m, .int .i64 ix, data] 34 (0, 0)) := by rw [← hW]; exact blk_alloc (last_block0 _ _ _ rfl) _
  have hB : W.heap[w.heap.size + 1]? = some (.cells (dgmA 0 0 0) 34 (0, 0)) := by rw [← hW]; exact last_block0 _ _ _ (by simp)
  have hon : w.grownBy W (some p) := by rw [← hW]; exact only_alloc (only_alloc (only_refl w _) _) _
  have hne : w.heap.size + 1 ≠ p := by omega
  have d0 : W.cell? ⟨w.heap.size, 0, none⟩ = some (.int .i64 1) := by rw [cell_of_block hD]; rfl
  have d5 : W.cell? ⟨w.heap.size, 5, none⟩ = some (.int .u32 a) := by rw [cell_of_block hD]; rfl
  have d6 : W.cell? ⟨w.heap.size, 6, none⟩ = some (.int .u32 b) := by rw [cell_of_block hD]; rfl
  have c0 : W.cell? ⟨p, 0, none⟩ = some (.int .i64 1) := by rw [cell_of_block hs1]; rfl
  have hs1h := hide hs1
  clear hW hs hD hs1 hz
  have c3 : W.cell? ⟨p, 3, none⟩ = some (.int .u32 peer) := by rw [cell_of_block hs1h.out]; rfl
  have f3 : W.frozen? ⟨p, 3, none⟩ = false := frozen_of_row W p 3 _ _ hs1h.out
  have hB2 := blk_set_other hB hne 3 (.int .u32 a)
  clear hB
  go_wp2_with (refine wpList_store_row rfl _ _ _ rfl _ _ rfl rfl _ _ hB2 (dgm_info _ (dgmA_size _ _ _)) (dgm_sz 0 0 0 1 0 a) (dgmA_one 1 0 a) ?_)
  refine bodyPost_ret (v := .tuple #[.agg (dgmA 1 0 a), .bool true, .int .i64 0]) ?hres rfl ?hpost
  case hpost => exact ⟨rfl, (hs1h.out.set3 a).setRow (by omega) _, only_setRow (only_set hon 3 _) (.inr (by omega)) _⟩
  case hres =>
    refine results_row_tmp2 rfl _ _ (w.heap.size + 1) 34 (dgmA 1 0 a) (0, 0) _ (.bool true) (.int .i64 0) rfl rfl rfl ?hg Try.underlying34 rfl (dgm_info _ (dgmA_size _ _ _))
    case hg => exact setRow_heap _ _ _ _ _ _ hB2
set_option maxRecDepth 100000 in
set_option maxHeartbeats 1000000 in
theorem s_take_ask2 (p : Nat) (s : ShS) (d : DgS) (w : World) (hs : ShAt w p s) (ok : ShOk s) (hk : d.kind = 1) (h1 : s.st = 2) (ha : d.a ≠ 0) :
    Calls Try.prog 12 #[.pointer (some ⟨p, 0, none⟩), .agg (dgA d)] w (ShPost w p { s with peer := d.a } (.tuple #[.agg (dgmA 1 0 d.a), .bool true, .int .i64 0])) := by
  obtain ⟨st, own, rd, peer, q, k⟩ := s
  obtain ⟨kind, ses, seq, path, tick, a, b, kk, m, ix, data⟩ := d
  simp only [dgA] at hk h1 ha ⊢
  have okh := hide ok
  clear ok
  subst hk
  subst h1
  have ea : (a == 0) = false := by simp; exact ha
  have ea2 : (a != 0) = true := by simp; exact ha
  clear ha
  have hp : p < w.heap.size := (Array.getElem?_eq_some_iff.1 hs).1
  have hz := zeroDgm
  go_enter Try.func12, Try.ntmps12
  go_upto_region 1 with (fail)
  generalize hW : (World.alloc w (.cells #[.int .i64 1, .int .u32 ses, .int .u32 seq, .int .i64 path, .int .u32 tick, .int .u32 a, .int .u32 b, .int .i64 kk, .int .i64 m, .int .i64 ix, data] 34)).alloc _ = W
  have hs1 : ShAt W p ⟨2, own, rd, peer, q, k⟩ := by rw [← hW]; exact (hs.alloc _).alloc _
  have hD : W.heap[w.heap.size]? = some (.cells #[.int .i64 1, .int .u32 ses, .int .u32 seq, .int .i64 path, .int .u32 tick, .int .u32 a, .int .u32 b, .int .i64 kk, .int .i64 m, .int .i64 ix, data] 34 (0, 0)) := by rw [← hW]; exact blk_alloc (last_block0 _ _ _ rfl) _
  have hB : W.heap[w.heap.size + 1]? = some (.cells (dgmA 0 0 0) 34 (0, 0)) := by rw [← hW]; exact last_block0 _ _ _ (by simp)
  have hon : w.grownBy W (some p) := by rw [← hW]; exact only_alloc (only_alloc (only_refl w _) _) _
  have hne : w.heap.size + 1 ≠ p := by omega
  have d0 : W.cell? ⟨w.heap.size, 0, none⟩ = some (.int .i64 1) := by rw [cell_of_block hD]; rfl
  have d5 : W.cell? ⟨w.heap.size, 5, none⟩ = some (.int .u32 a) := by rw [cell_of_block hD]; rfl
  have d6 : W.cell? ⟨w.heap.size, 6, none⟩ = some (.int .u32 b) := by rw [cell_of_block hD]; rfl
  have c0 : W.cell? ⟨p, 0, none⟩ = some (.int .i64 2) := by rw [cell_of_block hs1]; rfl
  have hs1h := hide hs1
  clear hW hs hD hs1 hz
  have c3 : W.cell? ⟨p, 3, none⟩ = some (.int .u32 peer) := by rw [cell_of_block hs1h.out]; rfl
  have f3 : W.frozen? ⟨p, 3, none⟩ = false := frozen_of_row W p 3 _ _ hs1h.out
  have hB2 := blk_set_other hB hne 3 (.int .u32 a)
  clear hB
  go_wp2_with (refine wpList_store_row rfl _ _ _ rfl _ _ rfl rfl _ _ hB2 (dgm_info _ (dgmA_size _ _ _)) (dgm_sz 0 0 0 1 0 a) (dgmA_one 1 0 a) ?_)
  refine bodyPost_ret (v := .tuple #[.agg (dgmA 1 0 a), .bool true, .int .i64 0]) ?hres rfl ?hpost
  case hpost => exact ⟨rfl, (hs1h.out.set3 a).setRow (by omega) _, only_setRow (only_set hon 3 _) (.inr (by omega)) _⟩
  case hres =>
    refine results_row_tmp2 rfl _ _ (w.heap.size + 1) 34 (dgmA 1 0 a) (0, 0) _ (.bool true) (.int .i64 0) rfl rfl rfl ?hg Try.underlying34 rfl (dgm_info _ (dgmA_size _ _ _))
    case hg => exact setRow_heap _ _ _ _ _ _ hB2
set_option maxRecDepth 100000 in
set_option maxHeartbeats 1000000 in
theorem s_take_run (p : Nat) (s : ShS) (d : DgS) (w : World) (hs : ShAt w p s) (ok : ShOk s) (hk : d.kind = 1) (h1 : s.st = 2) (ha : d.a = 0) :
    Calls Try.prog 12 #[.pointer (some ⟨p, 0, none⟩), .agg (dgA d)] w (ShPost w p s (.tuple #[.agg (dgmA 0 0 0), .bool false, .int .i64 280])) := by
  obtain ⟨st, own, rd, peer, q, k⟩ := s
  obtain ⟨kind, ses, seq, path, tick, a, b, kk, m, ix, data⟩ := d
  simp only [dgA] at hk h1 ha ⊢
  have okh := hide ok
  clear ok
  subst hk
  subst h1
  subst ha
  have hp : p < w.heap.size := (Array.getElem?_eq_some_iff.1 hs).1
  have hz := zeroDgm
  go_enter Try.func12, Try.ntmps12
  go_upto_region 1 with (fail)
  generalize hW : (World.alloc w (.cells #[.int .i64 1, .int .u32 ses, .int .u32 seq, .int .i64 path, .int .u32 tick, .int .u32 0, .int .u32 b, .int .i64 kk, .int .i64 m, .int .i64 ix, data] 34)).alloc _ = W
  have hs1 : ShAt W p ⟨2, own, rd, peer, q, k⟩ := by rw [← hW]; exact (hs.alloc _).alloc _
  have hD : W.heap[w.heap.size]? = some (.cells #[.int .i64 1, .int .u32 ses, .int .u32 seq, .int .i64 path, .int .u32 tick, .int .u32 0, .int .u32 b, .int .i64 kk, .int .i64 m, .int .i64 ix, data] 34 (0, 0)) := by rw [← hW]; exact blk_alloc (last_block0 _ _ _ rfl) _
  have hB : W.heap[w.heap.size + 1]? = some (.cells (dgmA 0 0 0) 34 (0, 0)) := by rw [← hW]; exact last_block0 _ _ _ (by simp)
  have hon : w.grownBy W (some p) := by rw [← hW]; exact only_alloc (only_alloc (only_refl w _) _) _
  have hne : w.heap.size + 1 ≠ p := by omega
  have d0 : W.cell? ⟨w.heap.size, 0, none⟩ = some (.int .i64 1) := by rw [cell_of_block hD]; rfl
  have d5 : W.cell? ⟨w.heap.size, 5, none⟩ = some (.int .u32 0) := by rw [cell_of_block hD]; rfl
  have d6 : W.cell? ⟨w.heap.size, 6, none⟩ = some (.int .u32 b) := by rw [cell_of_block hD]; rfl
  have c0 : W.cell? ⟨p, 0, none⟩ = some (.int .i64 2) := by rw [cell_of_block hs1]; rfl
  have hs1h := hide hs1
  clear hW hs hD hs1 hz
  go_wp2_with fail
  refine (s_answer_run p ⟨2, own, rd, peer, q, k⟩ b W hs1h.out okh.out rfl).mono ?_
  rintro e w1 ⟨rfl, hs2, hg⟩
  have hB1 : w1.heap[w.heap.size + 1]? = some (.cells (dgmA 0 0 0) 34 (0, 0)) :=
    (hg.block (w.heap.size + 1) (Array.getElem?_eq_some_iff.1 hB).1 (by intro e; injection e with e; omega)).trans hB
  have hon1 : w.grownBy w1 (some p) := only_trans hon hg
  have hs2h := hide hs2
  clear hs2 hg hB hon d0 d5 d6 c0
  go_wp2_with (refine wpList_store_row rfl _ _ _ rfl _ _ rfl rfl _ _ hB1 (dgm_info _ (dgmA_size _ _ _)) (dgm_sz 0 0 0 0 0 0) (dgmA_one 0 0 0) ?_)
  refine bodyPost_ret (v := .tuple #[.agg (dgmA 0 0 0), .bool false, .int .i64 280]) ?hres rfl ?hpost
  case hpost => exact ⟨rfl, hs2h.out.setRow (by omega) _, only_setRow hon1 (.inr (by omega)) _⟩
  case hres =>
    refine results_row_tmp2 rfl _ _ (w.heap.size + 1) 34 (dgmA 0 0 0) (0, 0) _ (.bool false) (.int .i64 280) rfl rfl rfl ?hg Try.underlying34 rfl (dgm_info _ (dgmA_size _ _ _))
    case hg => exact setRow_heap _ _ _ _ _ _ hB1
set_option maxRecDepth 100000 in
set_option maxHeartbeats 1000000 in
theorem s_take_bad (p : Nat) (s : ShS) (d : DgS) (w : World) (hs : ShAt w p s) (ok : ShOk s) (hk : d.kind = 1) (h1 : s.st = 1) (ha : d.a = 0) (hb : d.b ≠ tokZ s.own s.rd) :
    Calls Try.prog 12 #[.pointer (some ⟨p, 0, none⟩), .agg (dgA d)] w (ShPost w p s (.tuple #[.agg (dgmA 0 0 0), .bool false, .int .i64 280])) := by
  obtain ⟨st, own, rd, peer, q, k⟩ := s
  obtain ⟨kind, ses, seq, path, tick, a, b, kk, m, ix, data⟩ := d
  simp only [dgA] at hk h1 ha hb ⊢
  have okh := hide ok
  clear ok
  subst hk
  subst h1
  subst ha
  have hbh := hide hb
  clear hb
  have hp : p < w.heap.size := (Array.getElem?_eq_some_iff.1 hs).1
  have hz := zeroDgm
  go_enter Try.func12, Try.ntmps12
  go_upto_region 1 with (fail)
  generalize hW : (World.alloc w (.cells #[.int .i64 1, .int .u32 ses, .int .u32 seq, .int .i64 path, .int .u32 tick, .int .u32 0, .int .u32 b, .int .i64 kk, .int .i64 m, .int .i64 ix, data] 34)).alloc _ = W
  have hs1 : ShAt W p ⟨1, own, rd, peer, q, k⟩ := by rw [← hW]; exact (hs.alloc _).alloc _
  have hD : W.heap[w.heap.size]? = some (.cells #[.int .i64 1, .int .u32 ses, .int .u32 seq, .int .i64 path, .int .u32 tick, .int .u32 0, .int .u32 b, .int .i64 kk, .int .i64 m, .int .i64 ix, data] 34 (0, 0)) := by rw [← hW]; exact blk_alloc (last_block0 _ _ _ rfl) _
  have hB : W.heap[w.heap.size + 1]? = some (.cells (dgmA 0 0 0) 34 (0, 0)) := by rw [← hW]; exact last_block0 _ _ _ (by simp)
  have hon : w.grownBy W (some p) := by rw [← hW]; exact only_alloc (only_alloc (only_refl w _) _) _
  have hne : w.heap.size + 1 ≠ p := by omega
  have d0 : W.cell? ⟨w.heap.size, 0, none⟩ = some (.int .i64 1) := by rw [cell_of_block hD]; rfl
  have d5 : W.cell? ⟨w.heap.size, 5, none⟩ = some (.int .u32 0) := by rw [cell_of_block hD]; rfl
  have d6 : W.cell? ⟨w.heap.size, 6, none⟩ = some (.int .u32 b) := by rw [cell_of_block hD]; rfl
  have c0 : W.cell? ⟨p, 0, none⟩ = some (.int .i64 1) := by rw [cell_of_block hs1]; rfl
  have hs1h := hide hs1
  clear hW hs hD hs1 hz
  go_wp2_with fail
  refine (s_answer_bad p ⟨1, own, rd, peer, q, k⟩ b W hs1h.out okh.out (by simp) hbh.out).mono ?_
  rintro e w1 ⟨rfl, hs2, hg⟩
  have hB1 : w1.heap[w.heap.size + 1]? = some (.cells (dgmA 0 0 0) 34 (0, 0)) :=
    (hg.block (w.heap.size + 1) (Array.getElem?_eq_some_iff.1 hB).1 (by intro e; injection e with e; omega)).trans hB
  have hon1 : w.grownBy w1 (some p) := only_trans hon hg
  have hs2h := hide hs2
  clear hs2 hg hB hon d0 d5 d6 c0
  go_wp2_with (refine wpList_store_row rfl _ _ _ rfl _ _ rfl rfl _ _ hB1 (dgm_info _ (dgmA_size _ _ _)) (dgm_sz 0 0 0 0 0 0) (dgmA_one 0 0 0) ?_)
  refine bodyPost_ret (v := .tuple #[.agg (dgmA 0 0 0), .bool false, .int .i64 280]) ?hres rfl ?hpost
  case hpost => exact ⟨rfl, hs2h.out.setRow (by omega) _, only_setRow hon1 (.inr (by omega)) _⟩
  case hres =>
    refine results_row_tmp2 rfl _ _ (w.heap.size + 1) 34 (dgmA 0 0 0) (0, 0) _ (.bool false) (.int .i64 280) rfl rfl rfl ?hg Try.underlying34 rfl (dgm_info _ (dgmA_size _ _ _))
    case hg => exact setRow_heap _ _ _ _ _ _ hB1
set_option maxRecDepth 100000 in
set_option maxHeartbeats 1000000 in
theorem s_take_next (p : Nat) (s : ShS) (d : DgS) (w : World) (hs : ShAt w p s) (ok : ShOk s) (hk : d.kind = 1) (h1 : s.st = 1) (ha : d.a = 0) (hb : d.b = tokZ s.own s.rd) (hr : s.rd + 1 < 4) :
    Calls Try.prog 12 #[.pointer (some ⟨p, 0, none⟩), .agg (dgA d)] w (ShPost w p { s with rd := s.rd + 1, k := s.k + 1, q := 0 } (.tuple #[.agg (dgmA 1 (tokZ s.own (s.rd + 1)) 0), .bool true, .int .i64 0])) := by
  obtain ⟨st, own, rd, peer, q, k⟩ := s
  obtain ⟨kind, ses, seq, path, tick, a, b, kk, m, ix, data⟩ := d
  simp only [dgA] at hk h1 ha hb hr ⊢
  have okh := hide ok
  clear ok
  subst hk
  subst h1
  subst ha
  subst hb
  have hrh := hide hr
  clear hr
  have hp : p < w.heap.size := (Array.getElem?_eq_some_iff.1 hs).1
  have hz := zeroDgm
  go_enter Try.func12, Try.ntmps12
  go_upto_region 1 with (fail)
  generalize hW : (World.alloc w (.cells #[.int .i64 1, .int .u32 ses, .int .u32 seq, .int .i64 path, .int .u32 tick, .int .u32 0, .int .u32 (tokZ own rd), .int .i64 kk, .int .i64 m, .int .i64 ix, data] 34)).alloc _ = W
  have hs1 : ShAt W p ⟨1, own, rd, peer, q, k⟩ := by rw [← hW]; exact (hs.alloc _).alloc _
  have hD : W.heap[w.heap.size]? = some (.cells #[.int .i64 1, .int .u32 ses, .int .u32 seq, .int .i64 path, .int .u32 tick, .int .u32 0, .int .u32 (tokZ own rd), .int .i64 kk, .int .i64 m, .int .i64 ix, data] 34 (0, 0)) := by rw [← hW]; exact blk_alloc (last_block0 _ _ _ rfl) _
  have hB : W.heap[w.heap.size + 1]? = some (.cells (dgmA 0 0 0) 34 (0, 0)) := by rw [← hW]; exact last_block0 _ _ _ (by simp)
  have hon : w.grownBy W (some p) := by rw [← hW]; exact only_alloc (only_alloc (only_refl w _) _) _
  have hne : w.heap.size + 1 ≠ p := by omega
  have d0 : W.cell? ⟨w.heap.size, 0, none⟩ = some (.int .i64 1) := by rw [cell_of_block hD]; rfl
  have d5 : W.cell? ⟨w.heap.size, 5, none⟩ = some (.int .u32 0) := by rw [cell_of_block hD]; rfl
  have d6 : W.cell? ⟨w.heap.size, 6, none⟩ = some (.int .u32 (tokZ own rd)) := by rw [cell_of_block hD]; rfl
  have c0 : W.cell? ⟨p, 0, none⟩ = some (.int .i64 1) := by rw [cell_of_block hs1]; rfl
  have hs1h := hide hs1
  clear hW hs hD hs1 hz
  go_wp2_with fail
  refine (s_answer_next p ⟨1, own, rd, peer, q, k⟩ W hs1h.out okh.out (by simp) hrh.out).mono ?_
  rintro e w1 ⟨rfl, hs2, hg⟩
  have hB1 : w1.heap[w.heap.size + 1]? = some (.cells (dgmA 0 0 0) 34 (0, 0)) :=
    (hg.block (w.heap.size + 1) (Array.getElem?_eq_some_iff.1 hB).1 (by intro e; injection e with e; omega)).trans hB
  have hon1 : w.grownBy w1 (some p) := only_trans hon hg
  have hs2h := hide hs2
  clear hs2 hg hB hon d0 d5 d6 c0
  go_wp2_with (refine wpList_store_row rfl _ _ _ rfl _ _ rfl rfl _ _ hB1 (dgm_info _ (dgmA_size _ _ _)) (dgm_sz 0 0 0 1 (tokZ own (rd + 1)) 0) (dgmA_one 1 (tokZ own (rd + 1)) 0) ?_)
  refine bodyPost_ret (v := .tuple #[.agg (dgmA 1 (tokZ own (rd + 1)) 0), .bool true, .int .i64 0]) ?hres rfl ?hpost
  case hpost => exact ⟨rfl, hs2h.out.setRow (by omega) _, only_setRow hon1 (.inr (by omega)) _⟩
  case hres =>
    refine results_row_tmp2 rfl _ _ (w.heap.size + 1) 34 (dgmA 1 (tokZ own (rd + 1)) 0) (0, 0) _ (.bool true) (.int .i64 0) rfl rfl rfl ?hg Try.underlying34 rfl (dgm_info _ (dgmA_size _ _ _))
    case hg => exact setRow_heap _ _ _ _ _ _ hB1
set_option maxRecDepth 100000 in
set_option maxHeartbeats 1000000 in
theorem s_take_last (p : Nat) (s : ShS) (d : DgS) (w : World) (hs : ShAt w p s) (ok : ShOk s) (hk : d.kind = 1) (h1 : s.st = 1) (ha : d.a = 0) (hb : d.b = tokZ s.own s.rd) (hr : 4 ≤ s.rd + 1) :
    Calls Try.prog 12 #[.pointer (some ⟨p, 0, none⟩), .agg (dgA d)] w (ShPost w p { s with rd := s.rd + 1, st := 2 } (.tuple #[.agg (dgmA 0 0 0), .bool false, .int .i64 0])) := by
  obtain ⟨st, own, rd, peer, q, k⟩ := s
  obtain ⟨kind, ses, seq, path, tick, a, b, kk, m, ix, data⟩ := d
  simp only [dgA] at hk h1 ha hb hr ⊢
  have okh := hide ok
  clear ok
  subst hk
  subst h1
  subst ha
  subst hb
  have hrh := hide hr
  clear hr
  have hp : p < w.heap.size := (Array.getElem?_eq_some_iff.1 hs).1
  have hz := zeroDgm
  go_enter Try.func12, Try.ntmps12
  go_upto_region 1 with (fail)
  generalize hW : (World.alloc w (.cells #[.int .i64 1, .int .u32 ses, .int .u32 seq, .int .i64 path, .int .u32 tick, .int .u32 0, .int .u32 (tokZ own rd), .int .i64 kk, .int .i64 m, .int .i64 ix, data] 34)).alloc _ = W
  have hs1 : ShAt W p ⟨1, own, rd, peer, q, k⟩ := by rw [← hW]; exact (hs.alloc _).alloc _
  have hD : W.heap[w.heap.size]? = some (.cells #[.int .i64 1, .int .u32 ses, .int .u32 seq, .int .i64 path, .int .u32 tick, .int .u32 0, .int .u32 (tokZ own rd), .int .i64 kk, .int .i64 m, .int .i64 ix, data] 34 (0, 0)) := by rw [← hW]; exact blk_alloc (last_block0 _ _ _ rfl) _
  have hB : W.heap[w.heap.size + 1]? = some (.cells (dgmA 0 0 0) 34 (0, 0)) := by rw [← hW]; exact last_block0 _ _ _ (by simp)
  have hon : w.grownBy W (some p) := by rw [← hW]; exact only_alloc (only_alloc (only_refl w _) _) _
  have hne : w.heap.size + 1 ≠ p := by omega
  have d0 : W.cell? ⟨w.heap.size, 0, none⟩ = some (.int .i64 1) := by rw [cell_of_block hD]; rfl
  have d5 : W.cell? ⟨w.heap.size, 5, none⟩ = some (.int .u32 0) := by rw [cell_of_block hD]; rfl
  have d6 : W.cell? ⟨w.heap.size, 6, none⟩ = some (.int .u32 (tokZ own rd)) := by rw [cell_of_block hD]; rfl
  have c0 : W.cell? ⟨p, 0, none⟩ = some (.int .i64 1) := by rw [cell_of_block hs1]; rfl
  have hs1h := hide hs1
  clear hW hs hD hs1 hz
  go_wp2_with fail
  refine (s_answer_last p ⟨1, own, rd, peer, q, k⟩ W hs1h.out okh.out (by simp) hrh.out).mono ?_
  rintro e w1 ⟨rfl, hs2, hg⟩
  have hB1 : w1.heap[w.heap.size + 1]? = some (.cells (dgmA 0 0 0) 34 (0, 0)) :=
    (hg.block (w.heap.size + 1) (Array.getElem?_eq_some_iff.1 hB).1 (by intro e; injection e with e; omega)).trans hB
  have hon1 : w.grownBy w1 (some p) := only_trans hon hg
  have hs2h := hide hs2
  clear hs2 hg hB hon d0 d5 d6 c0
  go_wp2_with (refine wpList_store_row rfl _ _ _ rfl _ _ rfl rfl _ _ hB1 (dgm_info _ (dgmA_size _ _ _)) (dgm_sz 0 0 0 0 0 0) (dgmA_one 0 0 0) ?_)
  refine bodyPost_ret (v := .tuple #[.agg (dgmA 0 0 0), .bool false, .int .i64 0]) ?hres rfl ?hpost
  case hpost => exact ⟨rfl, hs2h.out.setRow (by omega) _, only_setRow hon1 (.inr (by omega)) _⟩
  case hres =>
    refine results_row_tmp2 rfl _ _ (w.heap.size + 1) 34 (dgmA 0 0 0) (0, 0) _ (.bool false) (.int .i64 0) rfl rfl rfl ?hg Try.underlying34 rfl (dgm_info _ (dgmA_size _ _ _))
    case hg => exact setRow_heap _ _ _ _ _ _ hB1
set_option maxRecDepth 100000 in
/-- Take, whole. -/
theorem s_take (p : Nat) (s : ShS) (d : DgS) (w : World) (hs : ShAt w p s) (ok : ShOk s) :
    Calls Try.prog 12 #[.pointer (some ⟨p, 0, none⟩), .agg (dgA d)] w (ShPost w p (shTake s d.kind d.a d.b).1 (.tuple #[dV (shTake s d.kind d.a d.b).2.1, .bool (shTake s d.kind d.a d.b).2.2.1, .int .i64 (shTake s d.kind d.a d.b).2.2.2])) := by
  unfold shTake
  by_cases hk : d.kind = 1
  · rw [if_neg (by simp [hk])]
    by_cases h2 : s.st = 2
    · rw [if_neg (by simp [h2])]
      by_cases ha : d.a = 0
      · rw [if_neg (by simp [ha]), if_pos (.inl h2)]
        exact s_take_run p s d w hs ok hk h2 ha
      · rw [if_pos ha]
        exact s_take_ask2 p s d w hs ok hk h2 ha
    · by_cases h1 : s.st = 1
      · rw [if_neg (by simp [h1])]
        by_cases ha : d.a = 0
        · rw [if_neg (by simp [ha])]
          by_cases hb : d.b = tokZ s.own s.rd
          · rw [if_neg (by intro h; rcases h with h | h; exact h2 h; exact h hb)]
            by_cases hr : s.rd + 1 < 4
            · rw [if_pos hr]
              exact s_take_next p s d w hs ok hk h1 ha hb hr
            · rw [if_neg hr]
              exact s_take_last p s d w hs ok hk h1 ha hb (by omega)
          · rw [if_pos (.inr hb)]
            exact s_take_bad p s d w hs ok hk h1 ha hb
        · rw [if_pos ha]
          exact s_take_ask1 p s d w hs ok hk h1 ha
      · rw [if_pos ⟨h1, h2⟩]
        exact s_take_state p s d w hs ok hk h1 h2
  · rw [if_pos hk]
    exact s_take_kind p s d w hs ok hk
end Go.Proofs.Ytdpngimcmohmaaa
