/- Matrices of one's own: Identity. -/
import Derived.Test.YtkcalgolanpjaaaMat2
namespace Go.Proofs.Ytkcalgolanpjaaa
open Go.RowKit
attribute [local irreducible] gexp gtbl glog rmul rinv rpow zexp mixF blk wLoad wLoadRes loadAns wStore wStoreRes storeAns Plain flF BRow
attribute [local go_sem ↓] ld_m0 ld_x0 sto_m0 sto_x0
attribute [local go_sem] ld_m ld_x sto_m sto_x loadAns_some storeAns_some mx_size mx_plain blk_alloc_if blk_setRow_if blk_drew_at blk_drewN_at rowPut_some blk_setCell_if cellPut_some
/-! ### Identity -/
def idF (i k : Nat) : Nat := if i = k then 1 else 0
def idK (j i k : Nat) : Nat := if i = k ∧ i < j then 1 else 0
theorem idK_next (j i k : Nat) : stF (idK j) j j 1 i k = idK (j + 1) i k := by
  unfold stF idK
  by_cases h : i = j ∧ k = j
  · rw [if_pos h, if_pos (by omega)]
  · rw [if_neg h]
    by_cases h2 : i = k ∧ i < j
    · rw [if_pos h2, if_pos (by omega)]
    · rw [if_neg h2, if_neg (by omega)]
set_option maxHeartbeats 2000000 in
theorem m_identity (n : Nat) (w : World) (hn : n ≤ 255) :
    Calls Try.prog 26 #[.int .i64 (n : Nat)] w (NewMPost w n n idF) := by
  have hz := zeroM
  have kn := Lib.hid (fun W => m_new n n W hn hn)
  have hB := below_one w (.cells #[.int .i64 0, .int .i64 0, .slice none 0 0] 24)
  have h0 := last_block0 w (.cells #[.int .i64 0, .int .i64 0, .slice none 0 0] 24) _ rfl
  have hsz : w.heap.size < (w.alloc (.cells #[.int .i64 0, .int .i64 0, .slice none 0 0] 24)).heap.size := by show _ < (w.heap.push _).size; rw [Array.size_push]; omega
  have hrc := rc_le hn hn
  have hidx := Lib.hid (fun i (h : i < n) => idx_lt h h)
  go_enter Try.func26, Try.ntmps26
  go_upto_region 1 with (fail)
  generalize World.alloc w _ = W at *
  have h0h := Lib.hid h0
  have hBh := Lib.hid hB
  clear h0 hB
  go_wp2_with fail
  refine (kn.out W).mono ?_
  rintro e w2 ⟨g, rfl, hg, hm, hb2⟩
  have hmh := Lib.hid hm
  have hb2h := Lib.hid hb2
  have hgl := hm.lt
  have hWl := hb2.size
  clear hm hb2
  obtain ⟨N, hNe⟩ : ∃ N, n * n = N := ⟨_, rfl⟩
  have hN := Lib.hid hNe
  rw [hNe] at hrc
  have hrc2 : N ≤ 100000 := Nat.le_trans hrc (by decide)
  clear hrc
  have hidx2 : Hid (∀ i, i < n → i * n + i < N) := hide (fun i h => by rw [← hNe]; exact hidx.out i h)
  rw [hNe]
  clear hNe hidx
  go_upto_region 5 with (fail)
  obtain ⟨x0, x1, x2⟩ := boxed w2 #[.int .i64 0, .int .i64 0, .slice none 0 0] #[.int .i64 (n : Nat), .int .i64 (n : Nat), .slice (some ⟨g, 0, none⟩) N N] 24
  generalize World.setRow (World.alloc w2 _) _ _ = X at *
  have hmX : Hid (MRow X g n n (idK 0)) := hide (((hmh.out.below x2 hgl)).congr (fun i k _ _ => by unfold idK; rw [if_neg (by omega)]))
  have hx0 := Lib.hid x0
  have hx2 := Lib.hid x2
  have hx1 : w2.heap.size < X.heap.size := by omega
  clear x0 x1 x2
  go_loopw [18] (fun iv wr => ∃ j : Nat, j ≤ n ∧ iv = .int .i64 (j : Nat) ∧ Hid (MRow wr g n n (idK j)) ∧ Hid (X.grownBy wr (some g))) (fun iv _ => n - (intOf iv).toNat)
  case atStart => exact ⟨0, Nat.zero_le _, rfl, hmX, hide (only_refl _ _)⟩
  case round =>
    obtain ⟨j, hj, rfl, hM, hG⟩ := hrel
    have b0r := (hG.out.block w2.heap.size (by omega) (by intro e; injection e with e; omega)).trans hx0.out
    have b0 := blk_of b0r
    by_cases hjn : j < n
    · have i1 : (j : Int) < (n : Int) := by omega
      have c2 : wr.cell? ⟨w2.heap.size, 2, none⟩ = some (.slice (some ⟨g, 0, none⟩) N N) := (cell_of_block b0r).trans rfl
      have hq := hidx2.out j hjn
      have cx := hM.out.cell j j hjn hjn
      have fx := hM.out.fr (j * n + j)
      have hset := (hM.out.set j j 1 hjn).congr (fun i k _ _ => idK_next j i k)
      rw [show ((1 : Nat) : Int) = 1 from rfl] at hset
      have hset2 := Lib.hid hset
      have hG2 := Lib.hid (only_set hG.out (j * n + j) (.int .u8 1))
      have e3 := (idx_walk j n j N hq hrc2).1
      have l1 := (idx_walk j n j N hq hrc2).2.2.1
      have e6 := (idx_walk j n j N hq hrc2).2.2.2.2
      have e5 := (idx_walk j n j N hq hrc2).2.2.2.1
      generalize idK j j j = ox at *
      generalize j * n = q at *
      clear b0r hset
      go_wp2_with fail
      go_roundw
      case rel => exact ⟨j + 1, by omega, by go_num, hset2, hG2⟩
      case measure => simp [intOf]; omega
    · obtain rfl : j = n := by omega
      have hMf := Lib.hid (hM.out.congr (fun i k hi _ => show idK j i k = idF i k by
        unfold idK idF
        by_cases e : i = k
        · rw [if_pos ⟨e, hi⟩, if_pos e]
        · rw [if_neg (fun h => e h.1), if_neg e]))
      have hr0 : wr.heap[w.heap.size]? = _ := ((hG.out.block w.heap.size (by omega) (by intro e; injection e with e; omega)).trans (hx2.out.block w.heap.size (by omega))).trans ((hb2h.out.block w.heap.size hsz).trans h0h.out)
      have hr0b := blk_of hr0
      have hB9 : Below w.heap.size w wr := below_grown (hBh.out.trans ((hb2h.out.mono hBh.out.size).trans (hx2.out.mono (by omega)))) (Nat.le_refl _) hG.out (fun p hp => by cases hp; omega)
      have hB9h := Lib.hid hB9
      have hr0h := Lib.hid hr0
      have i1 : decide ((j : Int) < (j : Int)) = false := by simp
      clear b0r hr0 hB9
      go_wp2_with fail
      refine bodyPost_ret (v := .tuple #[.agg #[.int .i64 (j : Nat), .int .i64 (j : Nat), .slice (some ⟨g, 0, none⟩) N N], .int .i64 0]) (results_row_tmp rfl _ _ w.heap.size 24 _ (0, 0) _ _ rfl rfl (setRow_heap _ _ _ _ _ _ hr0h.out) Try.underlying24 rfl mx_info) rfl ?hpost
      case hpost => exact ⟨g, by rw [hN.out], by omega, hMf.out.stay (setRow_other _ _ _ _ (by omega)), below_setRow hB9h.out (Nat.le_refl _) _⟩
set_option maxHeartbeats 2000000 in
theorem m_identity_no (n : Int) (w : World) (hn : n < 0 ∨ 255 < n) :
    Calls Try.prog 26 #[.int .i64 n] w (NoMPost w 50) := by
  have hz := zeroM
  have kn := Lib.hid (fun W => m_new_no n n W (by omega))
  have hB := below_one w (.cells #[.int .i64 0, .int .i64 0, .slice none 0 0] 24)
  have h0 := last_block0 w (.cells #[.int .i64 0, .int .i64 0, .slice none 0 0] 24) _ rfl
  have hsz : w.heap.size < (w.alloc (.cells #[.int .i64 0, .int .i64 0, .slice none 0 0] 24)).heap.size := by show _ < (w.heap.push _).size; rw [Array.size_push]; omega
  clear hn
  go_enter Try.func26, Try.ntmps26
  go_upto_region 1 with (fail)
  generalize World.alloc w _ = W at *
  have h0h := Lib.hid h0
  have hBh := Lib.hid hB
  clear h0 hB
  go_wp2_with fail
  refine (kn.out W).mono ?_
  rintro e w2 ⟨rfl, hb2⟩
  have hb2h := Lib.hid hb2
  have hWl := hb2.size
  clear hb2
  go_upto_region 2 with (fail)
  obtain ⟨x0, x1, x2⟩ := boxed w2 #[.int .i64 0, .int .i64 0, .slice none 0 0] #[.int .i64 0, .int .i64 0, .slice none 0 0] 24
  generalize World.setRow (World.alloc w2 _) _ _ = X at *
  have hr0 : X.heap[w.heap.size]? = _ := (x2.block w.heap.size (by omega)).trans ((hb2h.out.block w.heap.size hsz).trans h0h.out)
  have hr0b := blk_of hr0
  have b0 := blk_of x0
  have hB9 : Below w.heap.size w X := hBh.out.trans ((hb2h.out.mono hBh.out.size).trans (x2.mono (by omega)))
  have hB9h := Lib.hid hB9
  have hr0h := Lib.hid hr0
  have hx1 : w2.heap.size < X.heap.size := by omega
  clear hr0 hB9 x0 x1 x2
  go_wp2_with fail
  refine bodyPost_ret (v := .tuple #[.agg #[.int .i64 0, .int .i64 0, .slice none 0 0], .int .i64 50]) (results_row_tmp rfl _ _ w.heap.size 24 _ (0, 0) _ _ rfl rfl (setRow_heap _ _ _ _ _ _ hr0h.out) Try.underlying24 rfl mx_info) rfl ?hpost
  case hpost => exact ⟨rfl, below_setRow hB9h.out (Nat.le_refl _) _⟩
end Go.Proofs.Ytkcalgolanpjaaa
