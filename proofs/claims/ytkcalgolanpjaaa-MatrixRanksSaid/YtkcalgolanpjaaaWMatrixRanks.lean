/- The walk of the law MatrixRanks: it answers true for every matrix. -/
import Derived.Test.YtkcalgolanpjaaaMatLaw
namespace Go.Proofs.Ytkcalgolanpjaaa
open Go.RowKit
attribute [local irreducible] gexp gtbl glog rmul rinv rpow zexp mixF blk wLoad wLoadRes loadAns wStore wStoreRes storeAns Plain flF BRow MRow IsGf MAt By gjS rfS
attribute [local go_sem ↓] ld_m0 ld_x0 sto_m0 sto_x0
attribute [local go_sem] ld_m ld_x sto_m sto_x loadAns_some storeAns_some mx_size mx_plain blk_alloc_if blk_setRow_if blk_drew_at blk_drewN_at rowPut_some blk_setCell_if cellPut_some
set_option maxRecDepth 100000 in
set_option maxHeartbeats 4000000 in
theorem matrixRanks_walk (v0 : Value) (w : World) (w0 : IsMx w v0) :
    Calls Try.prog 8 #[v0] w fun e w' => e = .returned (.bool true) ∧ Below w.heap.size w w' := by
  obtain ⟨r, c, a, len, cap, zs, rfl, _, _, hrow⟩ := w0
  have hB := below_one w (.cells #[.int .i64 r, .int .i64 c, .slice a len cap] 24)
  have h0 := last_block0 w (.cells #[.int .i64 r, .int .i64 c, .slice a len cap] 24) _ rfl
  have hsz : w.heap.size < (w.alloc (.cells #[.int .i64 r, .int .i64 c, .slice a len cap] 24)).heap.size := by show _ < (w.heap.push _).size; rw [Array.size_push]; omega
  have hrx := Lib.hid (fun h => mx_right (r := r) (c := c) hrow h)
  clear hrow
  go_enter Try.func8, Try.ntmps8
  go_upto_region 1 with (fail)
  generalize World.alloc w _ = W at *
  have h0h := Lib.hid (blk_of h0)
  have hBh := Lib.hid hB
  clear h0 hB
  have hS : Hid (∀ y, Below W.heap.size W y → blk y w.heap.size = some (.cells #[.int .i64 r, .int .i64 c, .slice a len cap] 24 (0, 0))) := hide (fun y hy => (blk_below hy hsz).trans h0h.out)
  go_wp2_with fail
  refine (m_awake W).mono ?_
  rintro e w1 ⟨rfl, hb1⟩
  have hb1h := Lib.hid hb1
  have b1 := hS.out w1 hb1
  clear hb1
  go_wp2_with fail
  refine (l_small r c a len cap w1).mono ?_
  rintro e w2 ⟨sm, rfl, hb2, _⟩
  have hb2h := Lib.hid (below_step hb1h.out hb1h.out.size hb2)
  have hfin2 := Lib.hid (hBh.out.trans (hb2h.out.mono hBh.out.size))
  clear hb2 b1
  cases sm with
  | false =>
    go_wp2_with fail
    go_ret
    exact ⟨rfl, hfin2.out⟩
  | true =>
  go_upto_region 5 with (fail)
  have hBd := Lib.hid (below_drewN hb2h.out 1)
  refine h_begin 4 (fun y : World => blk y w.heap.size = some (.cells #[.int .i64 r, .int .i64 c, .slice a len cap] 24 (0, 0))) rfl (by kernel_rfl) (hS.out _ hBd.out) ?_
  have hHeld : (fun y : World => blk y w.heap.size = some (.cells #[.int .i64 r, .int .i64 c, .slice a len cap] 24 (0, 0))) w2.drew := hS.out _ hBd.out
  first
    | (refine h_run (i := 1) (v := ?_) hHeld rfl (by kernel_rfl) (by kernel_rfl) (by kernel_rfl) ?_ ?_ ?_
       rotate_left
       · rfl
       · (intro x hSx; (try dsimp only at hSx); go_simp <;> with_reducible rfl)
       simp only [Act.put, List.setIfInBounds_toArray, List.set_cons_zero, List.set_cons_succ])
    | (refine h_skip (i := 1) hHeld rfl (by kernel_rfl) (by kernel_rfl) (by kernel_rfl) ?_ ?_
       · rfl
       simp only [Act.put, List.setIfInBounds_toArray, List.set_cons_zero, List.set_cons_succ])
  clear hHeld
  refine h_call (i := 0) (fun y : World => blk y w.heap.size = some (.cells #[.int .i64 r, .int .i64 c, .slice a len cap] 24 (0, 0))) (fun _ h => h) (gf_new_below w2.drew) rfl (by kernel_rfl) rfl ?_ ?_
  · go_simp <;> with_reducible rfl
  rintro e y1 ⟨rfl, hgf, hy1⟩
  have hY1 := Lib.hid (below_step hBd.out hBd.out.size hy1)
  have hgfh := Lib.hid hgf
  refine ⟨_, rfl, hS.out _ hY1.out, ?_⟩
  generalize w2.drew.heap.size = p at *
  clear hy1 hgf
  obtain ⟨b, hb⟩ : ∃ b, rightB r c len = b := ⟨_, rfl⟩
  cases b with
  | false =>
    refine h_call (i := 2) (fun y : World => blk y w.heap.size = some (.cells #[.int .i64 r, .int .i64 c, .slice a len cap] 24 (0, 0))) (fun _ h => h) (m_rank_no p r c a len cap y1 hb) rfl (by kernel_rfl) rfl ?_ ?_
    · go_simp <;> with_reducible rfl
    rintro e y2 ⟨rfl, hy2⟩
    have hY2 := Lib.hid (below_step hY1.out hY1.out.size hy2)
    refine ⟨_, rfl, hS.out _ hY2.out, ?_⟩
    have hHeld : (fun y : World => blk y w.heap.size = some (.cells #[.int .i64 r, .int .i64 c, .slice a len cap] 24 (0, 0))) y2 := hS.out _ hY2.out
    first
      | (refine h_run (i := 3) (v := ?_) hHeld rfl (by kernel_rfl) (by kernel_rfl) (by kernel_rfl) ?_ ?_ ?_
         rotate_left
         · rfl
         · (intro x hSx; (try dsimp only at hSx); go_simp <;> with_reducible rfl)
         simp only [Act.put, List.setIfInBounds_toArray, List.set_cons_zero, List.set_cons_succ])
      | (refine h_skip (i := 3) hHeld rfl (by kernel_rfl) (by kernel_rfl) (by kernel_rfl) ?_ ?_
         · rfl
         simp only [Act.put, List.setIfInBounds_toArray, List.set_cons_zero, List.set_cons_succ])
    clear hHeld hy2
    refine h_done (by kernel_rfl) ?_
    have b2 := hS.out _ hY2.out
    go_wp2_with fail
    refine (l_ref r c a len cap y2).mono ?_
    rintro e y3 ⟨rfl, hy3⟩
    have hY3 := Lib.hid (below_step hY2.out hY2.out.size hy3)
    have kx := x_right r c a len cap y3
    rw [hb] at kx
    clear hy3 b2
    go_wp2_with fail
    refine kx.mono ?_
    rintro e y4 ⟨rfl, hy4⟩
    have hfin := Lib.hid (hBh.out.trans ((below_step hY3.out hY3.out.size hy4).mono hBh.out.size))
    clear hy4 kx
    go_wp2_with fail
    go_ret
    exact ⟨rfl, hfin.out⟩
  | true =>
    obtain ⟨R, C, F, hx⟩ := hrx.out hb
    obtain ⟨rfl, rfl, rfl, hR, hC, hm, hbd, hnil, hcap⟩ := hx
    have hmh := Lib.hid hm
    have kk := m_rank p R C a cap F y1 hgfh.out (hm.below (hBh.out.trans (hY1.out.mono hBh.out.size))) hnil hbd hR hC
    refine h_call (i := 2) (fun y : World => blk y w.heap.size = some (.cells #[.int .i64 (R : Nat), .int .i64 (C : Nat), .slice a (R * C) cap] 24 (0, 0))) (fun _ h => h) kk rfl (by kernel_rfl) rfl ?_ ?_
    · go_simp <;> with_reducible rfl
    rintro e y2 ⟨rfl, hy2⟩
    have hY2 := Lib.hid (below_step hY1.out hY1.out.size hy2)
    refine ⟨_, rfl, hS.out _ hY2.out, ?_⟩
    have hHeld : (fun y : World => blk y w.heap.size = some (.cells #[.int .i64 (R : Nat), .int .i64 (C : Nat), .slice a (R * C) cap] 24 (0, 0))) y2 := hS.out _ hY2.out
    first
      | (refine h_run (i := 3) (v := ?_) hHeld rfl (by kernel_rfl) (by kernel_rfl) (by kernel_rfl) ?_ ?_ ?_
         rotate_left
         · rfl
         · (intro x hSx; (try dsimp only at hSx); go_simp <;> with_reducible rfl)
         simp only [Act.put, List.setIfInBounds_toArray, List.set_cons_zero, List.set_cons_succ])
      | (refine h_skip (i := 3) hHeld rfl (by kernel_rfl) (by kernel_rfl) (by kernel_rfl) ?_ ?_
         · rfl
         simp only [Act.put, List.setIfInBounds_toArray, List.set_cons_zero, List.set_cons_succ])
    clear hHeld hy2 kk hm
    refine h_done (by kernel_rfl) ?_
    have b2 := hS.out _ hY2.out
    have hrs := Lib.hid (rank_same F hbd R C).1
    have hle := gj_le F R C
    have l1 := decide_le_t _ _ hle.1
    have l2 := decide_le_t _ _ hle.2
    have kx := Lib.hid (fun W' (h : Below W.heap.size W W') => x_rank R C a cap F W' (hmh.out.below (hBh.out.trans (h.mono hBh.out.size))) hbd hR hC)
    rw [← hrs.out] at kx
    clear hrs
    generalize (gjS F R C).1 = n at *
    go_wp2_with fail
    refine (l_ref R C a (R * C) cap y2).mono ?_
    rintro e y3 ⟨rfl, hy3⟩
    have hY3 := Lib.hid (below_step hY2.out hY2.out.size hy3)
    have kr := x_right R C a (R * C) cap y3
    rw [hb] at kr
    clear hy3 b2
    go_wp2_with fail
    refine kr.mono ?_
    rintro e y4 ⟨rfl, hy4⟩
    have hY4 := Lib.hid (below_step hY3.out hY3.out.size hy4)
    have b4 := hS.out _ hY4.out
    clear hy4 kr
    go_wp2_with fail
    refine (l_ref R C a (R * C) cap y4).mono ?_
    rintro e y5 ⟨rfl, hy5⟩
    have hY5 := Lib.hid (below_step hY4.out hY4.out.size hy5)
    clear hy5 b4
    go_wp2_with fail
    refine (kx.out y5 hY5.out).mono ?_
    rintro e y6 ⟨rfl, hy6⟩
    have hY6 := Lib.hid (below_step hY5.out hY5.out.size hy6)
    have b6 := hS.out _ hY6.out
    have c0 : y6.cell? ⟨w.heap.size, 0, none⟩ = some (.int .i64 (R : Nat)) := (cell_of_block (blk_heap b6)).trans rfl
    have c1 : y6.cell? ⟨w.heap.size, 1, none⟩ = some (.int .i64 (C : Nat)) := (cell_of_block (blk_heap b6)).trans rfl
    have t1 := beq_cast_t n
    have hfin := Lib.hid (hBh.out.trans (hY6.out.mono hBh.out.size))
    clear hy6 b6
    go_wp2_with fail
    go_ret
    exact ⟨rfl, hfin.out⟩
end Go.Proofs.Ytkcalgolanpjaaa
