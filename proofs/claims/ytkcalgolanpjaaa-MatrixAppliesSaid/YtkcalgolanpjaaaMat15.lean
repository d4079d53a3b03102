/- The contract of the document's Identity. -/
import Derived.Test.YtkcalgolanpjaaaMatAlg
namespace Go.Proofs.Ytkcalgolanpjaaa
open Go.RowKit
theorem made_box (w : World) (A B : Obj) (n : Nat) (D D0 : Array Value) (T : TypeId) (hA : A = .cells (madeCells #[.int .u8 0] n) 5) (hB : B = .cells D0 T) (X : World) (hX : X = ((w.alloc A).alloc B).setRow (w.heap.size + 1) D) :
    BRow X w.heap.size n (fun _ => 0) ∧ X.heap[w.heap.size + 1]? = some (.cells D T (0, 0)) ∧ X.heap.size = w.heap.size + 2 ∧ Below w.heap.size w X := by
  subst hA hB hX
  obtain ⟨h0, h1, h2, h3⟩ := two_allocs w (.cells (madeCells #[.int .u8 0] n) 5) (.cells D0 T)
  have hb := brow_made w n
  refine ⟨?_, setRow_heap _ _ _ _ _ _ h1, by rw [size_setRow]; exact h2, below_setRow h3 (by omega) _⟩
  have e1 : (((w.alloc (.cells (madeCells #[.int .u8 0] n) 5)).alloc (.cells D0 T)).setRow (w.heap.size + 1) D).heap[w.heap.size]? = (w.alloc (.cells (madeCells #[.int .u8 0] n) 5)).heap[w.heap.size]? := (setRow_other _ _ _ _ (by omega)).trans (h0.trans (last_block0 w _ _ rfl).symm)
  exact hb.stay e1
attribute [local irreducible] gexp gtbl glog rmul rinv rpow zexp mixF blk wLoad wLoadRes loadAns wStore wStoreRes storeAns Plain flF BRow
attribute [local go_sem ↓] ld_m0 ld_x0 sto_m0 sto_x0
attribute [local go_sem] ld_m ld_x sto_m sto_x loadAns_some storeAns_some mx_size mx_plain blk_alloc_if blk_setRow_if blk_drew_at blk_drewN_at rowPut_some blk_setCell_if cellPut_some
set_option maxHeartbeats 2000000 in
theorem x_identity (n : Nat) (w : World) (hn : n ≤ 255) :
    Calls Try.prog 18 #[.int .i64 (n : Nat)] w (XPost w n n idF) := by
  have hz := zeroX
  have hB := below_one w (.cells #[.int .i64 0, .int .i64 0, .slice none 0 0] 33)
  have h0 := last_block0 w (.cells #[.int .i64 0, .int .i64 0, .slice none 0 0] 33) _ rfl
  have hsz : w.heap.size < (w.alloc (.cells #[.int .i64 0, .int .i64 0, .slice none 0 0] 33)).heap.size := by show _ < (w.heap.push _).size; rw [Array.size_push]; omega
  have hrc := rc_le hn hn
  have hidx := Lib.hid (fun i (h : i < n) => idx_lt h h)
  have hn1 : ((n : Int) * (n : Int)) = ((n * n : Nat) : Int) := by simp
  have e3 : IntKind.i64.wrap ((n : Int) * (n : Int)) = ((n * n : Nat) : Int) := by rw [hn1]; exact IntWalk.i64_in _ (by omega)
  have e1 : wrap64 ((n : Int) * (n : Int)) = ((n * n : Nat) : Int) := by rw [hn1]; exact IntWalk.wrap64_in _ (by omega)
  have hmk : ∀ x : World, (Instr.makeSlice 22 (.int .i64 ((n * n : Nat) : Int)) (.int .i64 ((n * n : Nat) : Int))).run Try.prog x = .ok (.slice (some ⟨x.heap.size, 0, none⟩) (n * n) (n * n)) (x.alloc (.cells (madeCells #[.int .u8 0] (n * n)) 5)) := fun x => make_row (P := Try.prog) Try.underlying22 info8 (n * n) (by omega) (by decide) x
  obtain ⟨N, hNe⟩ : ∃ N, n * n = N := ⟨_, rfl⟩
  have hN := Lib.hid hNe
  rw [hNe] at hrc e1 e3 hmk
  have hrc2 : N ≤ 100000 := Nat.le_trans hrc (by decide)
  clear hrc hn1
  have hidx2 : Hid (∀ i, i < n → i * n + i < N) := hide (fun i h => by rw [← hNe]; exact hidx.out i h)
  clear hNe hidx
  have e3h := Lib.hid e3
  have e1h := Lib.hid e1
  go_enter Try.func18, Try.ntmps18
  go_upto_region 1 with (fail)
  generalize World.alloc w _ = W at *
  have h0h := Lib.hid h0
  have hBh := Lib.hid hB
  clear h0 hB
  go_upto_region 2 with (fail)
  obtain ⟨x0, x1, x2, x3⟩ := made_box W (.cells (madeCells #[.int .u8 0] N) 5) (.cells #[.int .i64 0, .int .i64 0, .slice none 0 0] 33) N #[.int .i64 (n : Nat), .int .i64 (n : Nat), .slice (some ⟨W.heap.size, 0, none⟩) N N] _ _ rfl rfl _ rfl
  generalize World.setRow (World.alloc (World.alloc W _) _) _ _ = X at *
  have hmX : Hid (MRow X W.heap.size n n (idK 0)) := hide (MRow.of (by rw [hN.out]; exact x0) (fun i k _ _ => by unfold idK; rw [if_neg (by omega)]))
  have hx1 := Lib.hid x1
  have hx3 := Lib.hid x3
  obtain ⟨g, hg⟩ : ∃ g, W.heap.size = g := ⟨_, rfl⟩
  have hgh := Lib.hid hg
  rw [hg] at hmX hx1 hx3 x2 hsz ⊢
  have hx2 : g + 1 < X.heap.size := by omega
  clear x0 x1 x2 x3 hg e1 e3 hmk
  go_upto_region 3 with (fail)
  go_loopw [4] (fun iv wr => ∃ j : Nat, j ≤ n ∧ iv = .int .i64 (j : Nat) ∧ Hid (MRow wr g n n (idK j)) ∧ Hid (X.grownBy wr (some g))) (fun iv _ => n - (intOf iv).toNat)
  case atStart => exact ⟨0, Nat.zero_le _, rfl, hmX, hide (only_refl _ _)⟩
  case round =>
    obtain ⟨j, hj, rfl, hM, hG⟩ := hrel
    have b0r := (hG.out.block (g + 1) (by omega) (by intro e; injection e with e; omega)).trans hx1.out
    have b0 := blk_of b0r
    by_cases hjn : j < n
    · have i1 : (j : Int) < (n : Int) := by omega
      have c2 : wr.cell? ⟨g + 1, 2, none⟩ = some (.slice (some ⟨g, 0, none⟩) N N) := (cell_of_block b0r).trans rfl
      have hq := hidx2.out j hjn
      have cx := hM.out.cell j j hjn hjn
      have fx := hM.out.fr (j * n + j)
      have hset := (hM.out.set j j 1 hjn).congr (fun i k _ _ => idK_next j i k)
      rw [show ((1 : Nat) : Int) = 1 from rfl] at hset
      have hset2 := Lib.hid hset
      have hG2 := Lib.hid (only_set hG.out (j * n + j) (.int .u8 1))
      have e3 := (idx_walk j n j N hq hrc2).1
      have l1 := (idx_walk j n j N hq hrc2).2.2.1
      have e6 := (idx_walk j n j N hq hrc2).2.2.2.2
      have e5 := (idx_walk j n j N hq hrc2).2.2.2.1
      generalize idK j j j = ox at *
      generalize j * n = q at *
      clear b0r hset
      go_wp2_with fail
      go_roundw
      case rel => exact ⟨j + 1, by omega, by go_num, hset2, hG2⟩
      case measure => simp [intOf]; omega
    · obtain rfl : j = n := by omega
      have hMf := Lib.hid (hM.out.congr (fun i k hi _ => show idK j i k = idF i k by
        unfold idK idF
        by_cases e : i = k
        · rw [if_pos ⟨e, hi⟩, if_pos e]
        · rw [if_neg (fun h => e h.1), if_neg e]))
      have hr0 : wr.heap[w.heap.size]? = _ := ((hG.out.block w.heap.size (by omega) (by intro e; injection e with e; omega)).trans (hx3.out.block w.heap.size (by omega))).trans h0h.out
      have hr0b := blk_of hr0
      have hB9 : Below w.heap.size w wr := below_grown (hBh.out.trans (hx3.out.mono (by omega))) (Nat.le_refl _) hG.out (fun p hp => by cases hp; omega)
      have hB9h := Lib.hid hB9
      have hr0h := Lib.hid hr0
      have i1 : decide ((j : Int) < (j : Int)) = false := by simp
      have hmt : Hid (∀ D, MAt (wr.setRow w.heap.size D) (some ⟨g, 0, none⟩) j j idF) := hide (fun D => (hMf.out.stay (setRow_other _ _ _ _ (by omega))).mat)
      clear b0r hr0 hB9
      go_wp2_with fail
      refine bodyPost_ret (v := .agg #[.int .i64 (j : Nat), .int .i64 (j : Nat), .slice (some ⟨g, 0, none⟩) N N]) (results_cell_row rfl _ _ w.heap.size 33 _ (0, 0) _ rfl (setRow_heap _ _ _ _ _ _ hr0h.out) Try.underlying33 rfl rx_info) rfl ?hpost
      case hpost => exact ⟨some ⟨g, 0, none⟩, N, by rw [hN.out], hmt.out _, (fun h => nomatch h), (by rw [hN.out]; exact Nat.le_refl _), below_setRow hB9h.out (Nat.le_refl _) _⟩
end Go.Proofs.Ytkcalgolanpjaaa
