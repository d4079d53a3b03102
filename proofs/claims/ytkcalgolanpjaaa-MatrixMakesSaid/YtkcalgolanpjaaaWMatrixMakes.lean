/- The walk of the law MatrixMakes: it answers true for every input. -/
import Derived.Test.YtkcalgolanpjaaaMat17
import Derived.Test.YtkcalgolanpjaaaMatPair
namespace Go.Proofs.Ytkcalgolanpjaaa
open Go.RowKit
theorem by_nil (w : World) (s : Option Addr) (f : Nat → Nat) : By w s 0 f := fun j hj => absurd hj (by omega)
theorem bne_same (b : Bool) : (b != b) = false := by cases b <;> rfl
attribute [local irreducible] gexp gtbl glog rmul rinv rpow zexp mixF blk wLoad wLoadRes loadAns wStore wStoreRes storeAns Plain flF BRow MRow IsGf MAt By pwF
attribute [local go_sem ↓] ld_m0 ld_x0 sto_m0 sto_x0
attribute [local go_sem] ld_m ld_x sto_m sto_x loadAns_some storeAns_some mx_size mx_plain blk_alloc_if blk_setRow_if blk_drew_at blk_drewN_at rowPut_some blk_setCell_if cellPut_some
set_option maxRecDepth 100000 in
set_option maxHeartbeats 8000000 in
theorem matrixMakes_walk (a0 : Int) (a1 : Int) (v2 : Value) (w : World) (w0 : (Lit.int .i64 a0).wf = true) (w1 : (Lit.int .i64 a1).wf = true) (w2 : IsMx w v2) :
    Calls Try.prog 4 #[.int .i64 a0, .int .i64 a1, v2] w fun e w' => e = .returned (.bool true) ∧ Below w.heap.size w w' := by
  obtain ⟨r, c, a, len, cap, zs, rfl, _, _, hrow⟩ := w2
  clear w0 w1
  have hzM := zeroM
  have hzx := zeroX
  have hB := below_one w (.cells #[.int .i64 r, .int .i64 c, .slice a len cap] 24)
  have h0 := last_block0 w (.cells #[.int .i64 r, .int .i64 c, .slice a len cap] 24) _ rfl
  have hsz : w.heap.size < (w.alloc (.cells #[.int .i64 r, .int .i64 c, .slice a len cap] 24)).heap.size := by show _ < (w.heap.push _).size; rw [Array.size_push]; omega
  have hrx := Lib.hid (fun h => mx_right (r := r) (c := c) hrow h)
  clear hrow
  go_enter Try.func4, Try.ntmps4
  go_upto_region 1 with (fail)
  generalize World.alloc w _ = W at *
  have h0h := Lib.hid (blk_of h0)
  have hBh := Lib.hid hB
  clear h0 hB
  have hfin : Hid (∀ y, Below W.heap.size W y → Below w.heap.size w y) := hide (fun y hy => hBh.out.trans (hy.mono hBh.out.size))
  have hS : Hid (∀ y, Below W.heap.size W y → blk y w.heap.size = some (.cells #[.int .i64 r, .int .i64 c, .slice a len cap] 24 (0, 0))) := hide (fun y hy => (blk_below hy hsz).trans h0h.out)
  have kW_W : Hid (Below W.heap.size W W) := hide (Below.refl _ _)
  go_wp2_with fail
  refine (m_awake W).mono ?_
  rintro e y1 ⟨rfl, hy⟩
  have kW_y1 := Lib.hid (below_step kW_W.out kW_W.out.size hy)
  clear hy
  go_upto_region 4 with (fail)
  have hS4 : Hid (∀ y, Below W.heap.size W y → (fun y : World => blk y w.heap.size = some (.cells #[.int .i64 r, .int .i64 c, .slice a len cap] 24 (0, 0)) ∧ y.cell? ⟨w.heap.size, 2, none⟩ = some (.slice a len cap)) y) := hide (fun y hy => ⟨hS.out y hy, (cell_of_block (blk_heap (hS.out y hy))).trans rfl⟩)
  have hBd := Lib.hid (below_drewN kW_y1.out 1)
  obtain ⟨ba, hba⟩ : ∃ ba, rightB r c len = ba := ⟨_, rfl⟩
  by_cases hbig : 70000 < len
  · have g1 : decide ((70000 : Int) < (len : Int)) = true := decide_eq_true (by omega)
    have g2 : decide (70000 < len) = true := decide_eq_true hbig
    refine h_begin 12 (fun y : World => blk y w.heap.size = some (.cells #[.int .i64 r, .int .i64 c, .slice a len cap] 24 (0, 0)) ∧ y.cell? ⟨w.heap.size, 2, none⟩ = some (.slice a len cap)) rfl (by kernel_rfl) (hS4.out _ hBd.out) ?_
    have hHeld : (fun y : World => blk y w.heap.size = some (.cells #[.int .i64 r, .int .i64 c, .slice a len cap] 24 (0, 0)) ∧ y.cell? ⟨w.heap.size, 2, none⟩ = some (.slice a len cap)) y1.drew := hS4.out _ hBd.out
    first
      | (refine h_run (i := 0) (v := ?_) hHeld rfl (by kernel_rfl) (by kernel_rfl) (by kernel_rfl) ?_ ?_ ?_
         rotate_left
         · rfl
         · (intro x hSx; (try dsimp only at hSx); go_simp <;> with_reducible rfl)
         simp only [Act.put, List.setIfInBounds_toArray, List.set_cons_zero, List.set_cons_succ])
      | (refine h_skip (i := 0) hHeld rfl (by kernel_rfl) (by kernel_rfl) (by kernel_rfl) ?_ ?_
         · rfl
         simp only [Act.put, List.setIfInBounds_toArray, List.set_cons_zero, List.set_cons_succ])
    first
      | (refine h_run (i := 1) (v := ?_) hHeld rfl (by kernel_rfl) (by kernel_rfl) (by kernel_rfl) ?_ ?_ ?_
         rotate_left
         · rfl
         · (intro x hSx; (try dsimp only at hSx); go_simp <;> with_reducible rfl)
         simp only [Act.put, List.setIfInBounds_toArray, List.set_cons_zero, List.set_cons_succ])
      | (refine h_skip (i := 1) hHeld rfl (by kernel_rfl) (by kernel_rfl) (by kernel_rfl) ?_ ?_
         · rfl
         simp only [Act.put, List.setIfInBounds_toArray, List.set_cons_zero, List.set_cons_succ])
    first
      | (refine h_run (i := 2) (v := ?_) hHeld rfl (by kernel_rfl) (by kernel_rfl) (by kernel_rfl) ?_ ?_ ?_
         rotate_left
         · rfl
         · (intro x hSx; (try dsimp only at hSx); go_simp <;> with_reducible rfl)
         simp only [Act.put, List.setIfInBounds_toArray, List.set_cons_zero, List.set_cons_succ])
      | (refine h_skip (i := 2) hHeld rfl (by kernel_rfl) (by kernel_rfl) (by kernel_rfl) ?_ ?_
         · rfl
         simp only [Act.put, List.setIfInBounds_toArray, List.set_cons_zero, List.set_cons_succ])
    first
      | (refine h_run (i := 3) (v := ?_) hHeld rfl (by kernel_rfl) (by kernel_rfl) (by kernel_rfl) ?_ ?_ ?_
         rotate_left
         · rfl
         · (intro x hSx; (try dsimp only at hSx); go_simp <;> with_reducible rfl)
         simp only [Act.put, List.setIfInBounds_toArray, List.set_cons_zero, List.set_cons_succ])
      | (refine h_skip (i := 3) hHeld rfl (by kernel_rfl) (by kernel_rfl) (by kernel_rfl) ?_ ?_
         · rfl
         simp only [Act.put, List.setIfInBounds_toArray, List.set_cons_zero, List.set_cons_succ])
    first
      | (refine h_run (i := 4) (v := ?_) hHeld rfl (by kernel_rfl) (by kernel_rfl) (by kernel_rfl) ?_ ?_ ?_
         rotate_left
         · rfl
         · (intro x hSx; (try dsimp only at hSx); go_simp <;> with_reducible rfl)
         simp only [Act.put, List.setIfInBounds_toArray, List.set_cons_zero, List.set_cons_succ])
      | (refine h_skip (i := 4) hHeld rfl (by kernel_rfl) (by kernel_rfl) (by kernel_rfl) ?_ ?_
         · rfl
         simp only [Act.put, List.setIfInBounds_toArray, List.set_cons_zero, List.set_cons_succ])
    first
      | (refine h_run (i := 5) (v := ?_) hHeld rfl (by kernel_rfl) (by kernel_rfl) (by kernel_rfl) ?_ ?_ ?_
         rotate_left
         · rfl
         · (intro x hSx; (try dsimp only at hSx); go_simp <;> with_reducible rfl)
         simp only [Act.put, List.setIfInBounds_toArray, List.set_cons_zero, List.set_cons_succ])
      | (refine h_skip (i := 5) hHeld rfl (by kernel_rfl) (by kernel_rfl) (by kernel_rfl) ?_ ?_
         · rfl
         simp only [Act.put, List.setIfInBounds_toArray, List.set_cons_zero, List.set_cons_succ])
    first
      | (refine h_run (i := 6) (v := ?_) hHeld rfl (by kernel_rfl) (by kernel_rfl) (by kernel_rfl) ?_ ?_ ?_
         rotate_left
         · rfl
         · (intro x hSx; (try dsimp only at hSx); go_simp <;> with_reducible rfl)
         simp only [Act.put, List.setIfInBounds_toArray, List.set_cons_zero, List.set_cons_succ])
      | (refine h_skip (i := 6) hHeld rfl (by kernel_rfl) (by kernel_rfl) (by kernel_rfl) ?_ ?_
         · rfl
         simp only [Act.put, List.setIfInBounds_toArray, List.set_cons_zero, List.set_cons_succ])
    first
      | (refine h_run (i := 7) (v := ?_) hHeld rfl (by kernel_rfl) (by kernel_rfl) (by kernel_rfl) ?_ ?_ ?_
         rotate_left
         · rfl
         · (intro x hSx; (try dsimp only at hSx); go_simp <;> with_reducible rfl)
         simp only [Act.put, List.setIfInBounds_toArray, List.set_cons_zero, List.set_cons_succ])
      | (refine h_skip (i := 7) hHeld rfl (by kernel_rfl) (by kernel_rfl) (by kernel_rfl) ?_ ?_
         · rfl
         simp only [Act.put, List.setIfInBounds_toArray, List.set_cons_zero, List.set_cons_succ])
    first
      | (refine h_run (i := 8) (v := ?_) hHeld rfl (by kernel_rfl) (by kernel_rfl) (by kernel_rfl) ?_ ?_ ?_
         rotate_left
         · rfl
         · (intro x hSx; (try dsimp only at hSx); go_simp <;> with_reducible rfl)
         simp only [Act.put, List.setIfInBounds_toArray, List.set_cons_zero, List.set_cons_succ])
      | (refine h_skip (i := 8) hHeld rfl (by kernel_rfl) (by kernel_rfl) (by kernel_rfl) ?_ ?_
         · rfl
         simp only [Act.put, List.setIfInBounds_toArray, List.set_cons_zero, List.set_cons_succ])
    first
      | (refine h_run (i := 9) (v := ?_) hHeld rfl (by kernel_rfl) (by kernel_rfl) (by kernel_rfl) ?_ ?_ ?_
         rotate_left
         · rfl
         · (intro x hSx; (try dsimp only at hSx); go_simp <;> with_reducible rfl)
         simp only [Act.put, List.setIfInBounds_toArray, List.set_cons_zero, List.set_cons_succ])
      | (refine h_skip (i := 9) hHeld rfl (by kernel_rfl) (by kernel_rfl) (by kernel_rfl) ?_ ?_
         · rfl
         simp only [Act.put, List.setIfInBounds_toArray, List.set_cons_zero, List.set_cons_succ])
    first
      | (refine h_run (i := 10) (v := ?_) hHeld rfl (by kernel_rfl) (by kernel_rfl) (by kernel_rfl) ?_ ?_ ?_
         rotate_left
         · rfl
         · (intro x hSx; (try dsimp only at hSx); go_simp <;> with_reducible rfl)
         simp only [Act.put, List.setIfInBounds_toArray, List.set_cons_zero, List.set_cons_succ])
      | (refine h_skip (i := 10) hHeld rfl (by kernel_rfl) (by kernel_rfl) (by kernel_rfl) ?_ ?_
         · rfl
         simp only [Act.put, List.setIfInBounds_toArray, List.set_cons_zero, List.set_cons_succ])
    first
      | (refine h_run (i := 11) (v := ?_) hHeld rfl (by kernel_rfl) (by kernel_rfl) (by kernel_rfl) ?_ ?_ ?_
         rotate_left
         · rfl
         · (intro x hSx; (try dsimp only at hSx); go_simp <;> with_reducible rfl)
         simp only [Act.put, List.setIfInBounds_toArray, List.set_cons_zero, List.set_cons_succ])
      | (refine h_skip (i := 11) hHeld rfl (by kernel_rfl) (by kernel_rfl) (by kernel_rfl) ?_ ?_
         · rfl
         simp only [Act.put, List.setIfInBounds_toArray, List.set_cons_zero, List.set_cons_succ])
    clear hHeld
    refine h_done (by kernel_rfl) ?_
    have hlast := Lib.hid (hfin.out _ hBd.out)
    have b1a := hS.out _ kW_y1.out
    have b1b : y1.cell? ⟨w.heap.size, 2, none⟩ = some (.slice a len cap) := (cell_of_block (blk_heap b1a)).trans rfl
    go_wp2_with fail
    go_ret
    exact ⟨rfl, hlast.out⟩
  have g1 : decide ((70000 : Int) < (len : Int)) = false := decide_eq_false (by omega)
  have g2 : decide (70000 < len) = false := decide_eq_false hbig
  refine h_begin 12 (fun y : World => blk y w.heap.size = some (.cells #[.int .i64 r, .int .i64 c, .slice a len cap] 24 (0, 0)) ∧ y.cell? ⟨w.heap.size, 2, none⟩ = some (.slice a len cap)) rfl (by kernel_rfl) (hS4.out _ hBd.out) ?_
  have hHeld : (fun y : World => blk y w.heap.size = some (.cells #[.int .i64 r, .int .i64 c, .slice a len cap] 24 (0, 0)) ∧ y.cell? ⟨w.heap.size, 2, none⟩ = some (.slice a len cap)) y1.drew := hS4.out _ hBd.out
  first
    | (refine h_run (i := 0) (v := ?_) hHeld rfl (by kernel_rfl) (by kernel_rfl) (by kernel_rfl) ?_ ?_ ?_
       rotate_left
       · rfl
       · (intro x hSx; (try dsimp only at hSx); go_simp <;> with_reducible rfl)
       simp only [Act.put, List.setIfInBounds_toArray, List.set_cons_zero, List.set_cons_succ])
    | (refine h_skip (i := 0) hHeld rfl (by kernel_rfl) (by kernel_rfl) (by kernel_rfl) ?_ ?_
       · rfl
       simp only [Act.put, List.setIfInBounds_toArray, List.set_cons_zero, List.set_cons_succ])
  first
    | (refine h_run (i := 1) (v := ?_) hHeld rfl (by kernel_rfl) (by kernel_rfl) (by kernel_rfl) ?_ ?_ ?_
       rotate_left
       · rfl
       · (intro x hSx; (try dsimp only at hSx); go_simp <;> with_reducible rfl)
       simp only [Act.put, List.setIfInBounds_toArray, List.set_cons_zero, List.set_cons_succ])
    | (refine h_skip (i := 1) hHeld rfl (by kernel_rfl) (by kernel_rfl) (by kernel_rfl) ?_ ?_
       · rfl
       simp only [Act.put, List.setIfInBounds_toArray, List.set_cons_zero, List.set_cons_succ])
  first
    | (refine h_run (i := 2) (v := ?_) hHeld rfl (by kernel_rfl) (by kernel_rfl) (by kernel_rfl) ?_ ?_ ?_
       rotate_left
       · rfl
       · (intro x hSx; (try dsimp only at hSx); go_simp <;> with_reducible rfl)
       simp only [Act.put, List.setIfInBounds_toArray, List.set_cons_zero, List.set_cons_succ])
    | (refine h_skip (i := 2) hHeld rfl (by kernel_rfl) (by kernel_rfl) (by kernel_rfl) ?_ ?_
       · rfl
       simp only [Act.put, List.setIfInBounds_toArray, List.set_cons_zero, List.set_cons_succ])
  first
    | (refine h_run (i := 3) (v := ?_) hHeld rfl (by kernel_rfl) (by kernel_rfl) (by kernel_rfl) ?_ ?_ ?_
       rotate_left
       · rfl
       · (intro x hSx; (try dsimp only at hSx); go_simp <;> with_reducible rfl)
       simp only [Act.put, List.setIfInBounds_toArray, List.set_cons_zero, List.set_cons_succ])
    | (refine h_skip (i := 3) hHeld rfl (by kernel_rfl) (by kernel_rfl) (by kernel_rfl) ?_ ?_
       · rfl
       simp only [Act.put, List.setIfInBounds_toArray, List.set_cons_zero, List.set_cons_succ])
  first
    | (refine h_run (i := 4) (v := ?_) hHeld rfl (by kernel_rfl) (by kernel_rfl) (by kernel_rfl) ?_ ?_ ?_
       rotate_left
       · rfl
       · (intro x hSx; (try dsimp only at hSx); go_simp <;> with_reducible rfl)
       simp only [Act.put, List.setIfInBounds_toArray, List.set_cons_zero, List.set_cons_succ])
    | (refine h_skip (i := 4) hHeld rfl (by kernel_rfl) (by kernel_rfl) (by kernel_rfl) ?_ ?_
       · rfl
       simp only [Act.put, List.setIfInBounds_toArray, List.set_cons_zero, List.set_cons_succ])
  first
    | (refine h_run (i := 5) (v := ?_) hHeld rfl (by kernel_rfl) (by kernel_rfl) (by kernel_rfl) ?_ ?_ ?_
       rotate_left
       · rfl
       · (intro x hSx; (try dsimp only at hSx); go_simp <;> with_reducible rfl)
       simp only [Act.put, List.setIfInBounds_toArray, List.set_cons_zero, List.set_cons_succ])
    | (refine h_skip (i := 5) hHeld rfl (by kernel_rfl) (by kernel_rfl) (by kernel_rfl) ?_ ?_
       · rfl
       simp only [Act.put, List.setIfInBounds_toArray, List.set_cons_zero, List.set_cons_succ])
  first
    | (refine h_run (i := 8) (v := ?_) hHeld rfl (by kernel_rfl) (by kernel_rfl) (by kernel_rfl) ?_ ?_ ?_
       rotate_left
       · rfl
       · (intro x hSx; (try dsimp only at hSx); go_simp <;> with_reducible rfl)
       simp only [Act.put, List.setIfInBounds_toArray, List.set_cons_zero, List.set_cons_succ])
    | (refine h_skip (i := 8) hHeld rfl (by kernel_rfl) (by kernel_rfl) (by kernel_rfl) ?_ ?_
       · rfl
       simp only [Act.put, List.setIfInBounds_toArray, List.set_cons_zero, List.set_cons_succ])
  clear hHeld
  refine h_call (i := 6) (fun y : World => blk y w.heap.size = some (.cells #[.int .i64 r, .int .i64 c, .slice a len cap] 24 (0, 0)) ∧ y.cell? ⟨w.heap.size, 2, none⟩ = some (.slice a len cap)) (fun _ h => h) (l_ref r c a len cap y1.drew) rfl (by kernel_rfl) rfl ?_ ?_
  · go_simp <;> with_reducible rfl
  rintro e z1 ⟨rfl, hy⟩
  have hz1 := Lib.hid (below_step hBd.out hBd.out.size hy)
  refine ⟨_, rfl, hS4.out _ hz1.out, ?_⟩
  clear hy
  have kx := x_right r c a len cap z1
  rw [hba] at kx
  refine h_call (i := 7) (fun y : World => blk y w.heap.size = some (.cells #[.int .i64 r, .int .i64 c, .slice a len cap] 24 (0, 0)) ∧ y.cell? ⟨w.heap.size, 2, none⟩ = some (.slice a len cap)) (fun _ h => h) kx rfl (by kernel_rfl) rfl ?_ ?_
  · go_simp <;> with_reducible rfl
  rintro e z2 ⟨rfl, hy⟩
  have hz2 := Lib.hid (below_step hz1.out hz1.out.size hy)
  refine ⟨_, rfl, hS4.out _ hz2.out, ?_⟩
  clear hy kx
  have kx := m_right r c a len cap z2
  rw [hba] at kx
  refine h_call (i := 9) (fun y : World => blk y w.heap.size = some (.cells #[.int .i64 r, .int .i64 c, .slice a len cap] 24 (0, 0)) ∧ y.cell? ⟨w.heap.size, 2, none⟩ = some (.slice a len cap)) (fun _ h => h) kx rfl (by kernel_rfl) rfl ?_ ?_
  · go_simp <;> with_reducible rfl
  rintro e z3 ⟨rfl, hy⟩
  have kW_z3 := Lib.hid (below_step hz2.out hz2.out.size hy)
  refine ⟨_, rfl, hS4.out _ kW_z3.out, ?_⟩
  clear hy kx
  have hbb := bne_same ba
  have hHeld : (fun y : World => blk y w.heap.size = some (.cells #[.int .i64 r, .int .i64 c, .slice a len cap] 24 (0, 0)) ∧ y.cell? ⟨w.heap.size, 2, none⟩ = some (.slice a len cap)) z3 := hS4.out _ kW_z3.out
  first
    | (refine h_run (i := 10) (v := ?_) hHeld rfl (by kernel_rfl) (by kernel_rfl) (by kernel_rfl) ?_ ?_ ?_
       rotate_left
       · rfl
       · (intro x hSx; (try dsimp only at hSx); go_simp <;> with_reducible rfl)
       simp only [Act.put, List.setIfInBounds_toArray, List.set_cons_zero, List.set_cons_succ])
    | (refine h_skip (i := 10) hHeld rfl (by kernel_rfl) (by kernel_rfl) (by kernel_rfl) ?_ ?_
       · rfl
       simp only [Act.put, List.setIfInBounds_toArray, List.set_cons_zero, List.set_cons_succ])
  first
    | (refine h_run (i := 11) (v := ?_) hHeld rfl (by kernel_rfl) (by kernel_rfl) (by kernel_rfl) ?_ ?_ ?_
       rotate_left
       · rfl
       · (intro x hSx; (try dsimp only at hSx); go_simp <;> with_reducible rfl)
       simp only [Act.put, List.setIfInBounds_toArray, List.set_cons_zero, List.set_cons_succ])
    | (refine h_skip (i := 11) hHeld rfl (by kernel_rfl) (by kernel_rfl) (by kernel_rfl) ?_ ?_
       · rfl
       simp only [Act.put, List.setIfInBounds_toArray, List.set_cons_zero, List.set_cons_succ])
  clear hHeld hbb
  refine h_done (by kernel_rfl) ?_
  have bm := hS.out _ kW_z3.out
  have c1 := hsz
  clear hS4 c1 hBd hz1 hz2 g1 g2 hbig kW_y1
  by_cases hgo : ba = true ∧ 0 ≤ a1 ∧ a1 < r
  · obtain ⟨rfl, hlo, hhi⟩ := hgo
    obtain ⟨K, D, F, hx⟩ := hrx.out hba
    obtain ⟨rfl, rfl, rfl, hK, hD, hm, hbd, hnil, hcap⟩ := hx
    obtain ⟨i, rfl⟩ : ∃ i : Nat, a1 = i := ⟨a1.toNat, by omega⟩
    have hiK : i < K := by omega
    have hmh := Lib.hid hm
    have hnilh := Lib.hid hnil
    have hmy := Lib.hid (fun y (hy : Below W.heap.size W y) => hmh.out.below (hfin.out y hy))
    clear hm hnil hlo hhi
    go_wp2_with fail
    refine (m_rowcopy K D i a cap F z3 (hmy.out z3 kW_z3.out) hnilh.out hiK hK hD hcap).mono ?_
    rintro e y11 ⟨gr, cr, rfl, _, _, hbr, hy⟩
    have hbrh := Lib.hid hbr
    have hbl := hbr.lt
    clear hbr
    have kW_y11 := Lib.hid (below_step kW_z3.out kW_z3.out.size hy)
    clear hy bm
    have hbyy11 := Lib.hid (fun z (hz : Below y11.heap.size y11 z) => (BRow.below hbrh.out hz hbl).by)
    have ky11_y11 : Hid (Below y11.heap.size y11 y11) := hide (Below.refl _ _)
    have bm := hS.out _ kW_y11.out
    go_wp2_with fail
    refine (l_ref K D a (K * D) cap y11).mono ?_
    rintro e y12 ⟨rfl, hy⟩
    have kW_y12 := Lib.hid (below_step kW_y11.out kW_y11.out.size hy)
    have ky11_y12 := Lib.hid (below_step ky11_y11.out ky11_y11.out.size hy)
    clear hy bm
    have kx := x_right K D a (K * D) cap y12
    rw [hba] at kx
    go_wp2_with fail
    refine (kx).mono ?_
    rintro e y13 ⟨rfl, hy⟩
    have kW_y13 := Lib.hid (below_step kW_y12.out kW_y12.out.size hy)
    have ky11_y13 := Lib.hid (below_step ky11_y12.out ky11_y12.out.size hy)
    clear hy kx
    have bm := hS.out _ kW_y13.out
    have c0 : y13.cell? ⟨w.heap.size, 0, none⟩ = some (.int .i64 (K : Nat)) := (cell_of_block (blk_heap bm)).trans rfl
    have i1 : decide ((K : Int) ≤ (i : Int)) = false := by simp; omega
    have i2 : decide (K ≤ i) = false := by simp; omega
    have i3 : (i : Int) < (K : Int) := by omega
    go_upto_region 10 with (fail)
    clear c0
    go_cut [70] (fun v wx => v = .bool false ∧ Below y13.heap.size y13 wx)
    case first =>
      have c1 : y13.cell? ⟨w.heap.size, 1, none⟩ = some (.int .i64 (D : Nat)) := (cell_of_block (blk_heap bm)).trans rfl
      have c2 : y13.cell? ⟨w.heap.size, 2, none⟩ = some (.slice a (K * D) cap) := (cell_of_block (blk_heap bm)).trans rfl
      have hrow := Lib.hid ((hmy.out y13 kW_y13.out).row i hiK)
      have hcopy := Lib.hid (hbyy11.out y13 ky11_y13.out)
      have h1 := idx_row (C := D) hiK
      have h2 := rc_le hK hD
      have hsome := Lib.hid (MAt.some (hmy.out y13 kW_y13.out) (by omega))
      by_cases hD0 : D = 0
      · subst hD0
        simp only [Nat.mul_zero] at *
        clear hrow
        go_wp2_with fail
        refine (r_sameB _ _ _ _ 0 (F i) y13 (by_nil _ _ _) (by_nil _ _ _) (by decide)).mono ?_
        rintro e z9 ⟨rfl, hy⟩
        have hyh := Lib.hid hy
        clear hy
        go_wp2_with fail
        go_meet
        exact ⟨rfl, hyh.out⟩
      · obtain ⟨b, off, rfl⟩ := hsome.out.resolve_left hD0
        rw [rowA_pos b off D i hD0] at hrow
        have hn1 : ((i : Int) * (D : Int)) = ((i * D : Nat) : Int) := by simp
        generalize K * D = L at *
        have e3 : IntKind.i64.wrap ((i : Int) * (D : Int)) = ((i * D : Nat) : Int) := by rw [hn1]; exact IntWalk.i64_in _ (by omega)
        have e3h := Lib.hid e3
        clear e3 hn1
        generalize i * D = q at *
        have hq9 : q < cap := by omega
        have hs9 : q + D - q ≤ 9223372036854775807 := by omega
        have e4 : IntKind.i64.wrap ((q : Int) + (D : Int)) = (q : Int) + (D : Int) := IntWalk.i64_in _ (by omega)
        have hrow2 : Hid (By y13 (some ⟨b, off + q, none⟩) (q + D - q) (F i)) := hide (by rw [Nat.add_sub_cancel_left]; exact hrow.out)
        have hcopy2 : Hid (By y13 (some ⟨gr, 0, none⟩) (q + D - q) (F i)) := hide (by rw [Nat.add_sub_cancel_left]; exact hcopy.out)
        clear hrow hcopy hsome
        have ksm := Lib.hid (fun cs ct => r_sameB (some ⟨gr, 0, none⟩) (some ⟨b, off + q, none⟩) cs ct (q + D - q) (F i) y13 hcopy2.out hrow2.out hs9)
        rw [Nat.add_sub_cancel_left] at ksm
        clear hs9
        have e3 := e3h.out
        go_wp2_with fail
        first | refine (ksm.out _ _).mono ?_ | (rw [Nat.add_sub_cancel_left]; refine (ksm.out _ _).mono ?_)
        rintro e z9 ⟨rfl, hy⟩
        have hyh := Lib.hid hy
        clear hy
        go_wp2_with fail
        go_meet
        exact ⟨rfl, hyh.out⟩
    case rest =>
      obtain ⟨rfl, hy⟩ := hcut
      have kW_wc := Lib.hid (below_step kW_y13.out kW_y13.out.size hy)
      have ky11_wc := Lib.hid (below_step ky11_y13.out ky11_y13.out.size hy)
      clear hy bm i1 i2 i3
      generalize wc = u0 at *
      have kW_u0 := kW_wc
      clear kW_wc
      have ky11_u0 := ky11_wc
      clear ky11_wc
      by_cases ha0 : a0 < 0
      · skip
        have d0 : decide (a0 < 0) = true := decide_eq_true ha0
        have hbad : a0 < 0 ∨ ((i : Nat) : Int) < 0 ∨ 255 < a0 ∨ 255 < ((i : Nat) : Int) := .inl ha0
        have hbad0 : a0 < 0 ∨ 255 < a0 := .inl ha0
        have hbadh := Lib.hid hbad
        have hbad0h := Lib.hid hbad0
        clear hbad hbad0
        go_wp2_with fail
        refine (m_new_no a0 (i : Nat) u0 hbadh.out).mono ?_
        rintro e y14 ⟨rfl, hy⟩
        have kW_y14 := Lib.hid (below_step kW_u0.out kW_u0.out.size hy)
        have ky11_y14 := Lib.hid (below_step ky11_u0.out ky11_u0.out.size hy)
        clear hy
        go_upto_region 13 with (fail)
        obtain ⟨x0, x1, x2⟩ := boxed y14 #[.int .i64 0, .int .i64 0, .slice none 0 0] #[.int .i64 0, .int .i64 0, .slice none 0 0] 24
        generalize World.setRow (World.alloc y14 _) _ _ = Xn at *
        have hln : y14.heap.size < Xn.heap.size := by omega
        have hvn : Hid (∀ z, Below Xn.heap.size Xn z → blk z y14.heap.size = some (.cells #[.int .i64 0, .int .i64 0, .slice none 0 0] 24 (0, 0))) := hide (fun z hz => (blk_below hz hln).trans (blk_of x0))
        have kXn_Xn : Hid (Below Xn.heap.size Xn Xn) := hide (Below.refl _ _)
        have kW_Xn := Lib.hid (below_step kW_y14.out kW_y14.out.size x2)
        have ky11_Xn := Lib.hid (below_step ky11_y14.out ky11_y14.out.size x2)
        obtain ⟨qn, hq⟩ : ∃ qn, y14.heap.size = qn := ⟨_, rfl⟩
        rw [hq] at hvn hln ⊢
        clear x0 x1 x2 hq
        go_wp2_with fail
        refine (gf_new_below Xn).mono ?_
        rintro e y15 ⟨rfl, hgf, hy⟩
        clear hgf
        have kW_y15 := Lib.hid (below_step kW_Xn.out kW_Xn.out.size hy)
        have ky11_y15 := Lib.hid (below_step ky11_Xn.out ky11_Xn.out.size hy)
        have kXn_y15 := Lib.hid (below_step kXn_Xn.out kXn_Xn.out.size hy)
        clear hy
        go_wp2_with fail
        refine (m_powers_no _ a0 (i : Nat) y15 hbadh.out).mono ?_
        rintro e y16 ⟨rfl, hy⟩
        have kW_y16 := Lib.hid (below_step kW_y15.out kW_y15.out.size hy)
        have ky11_y16 := Lib.hid (below_step ky11_y15.out ky11_y15.out.size hy)
        have kXn_y16 := Lib.hid (below_step kXn_y15.out kXn_y15.out.size hy)
        clear hy
        go_upto_region 14 with (fail)
        obtain ⟨x0, x1, x2⟩ := boxed y16 #[.int .i64 0, .int .i64 0, .slice none 0 0] #[.int .i64 0, .int .i64 0, .slice none 0 0] 24
        generalize World.setRow (World.alloc y16 _) _ _ = Xp at *
        have hlp : y16.heap.size < Xp.heap.size := by omega
        have hvp : Hid (∀ z, Below Xp.heap.size Xp z → blk z y16.heap.size = some (.cells #[.int .i64 0, .int .i64 0, .slice none 0 0] 24 (0, 0))) := hide (fun z hz => (blk_below hz hlp).trans (blk_of x0))
        have kXp_Xp : Hid (Below Xp.heap.size Xp Xp) := hide (Below.refl _ _)
        have kW_Xp := Lib.hid (below_step kW_y16.out kW_y16.out.size x2)
        have ky11_Xp := Lib.hid (below_step ky11_y16.out ky11_y16.out.size x2)
        have kXn_Xp := Lib.hid (below_step kXn_y16.out kXn_y16.out.size x2)
        obtain ⟨qp, hq⟩ : ∃ qp, y16.heap.size = qp := ⟨_, rfl⟩
        rw [hq] at hvp hlp ⊢
        clear x0 x1 x2 hq
        go_wp2_with fail
        refine (m_identity_no a0 Xp hbad0h.out).mono ?_
        rintro e y17 ⟨rfl, hy⟩
        have kW_y17 := Lib.hid (below_step kW_Xp.out kW_Xp.out.size hy)
        have ky11_y17 := Lib.hid (below_step ky11_Xp.out ky11_Xp.out.size hy)
        have kXn_y17 := Lib.hid (below_step kXn_Xp.out kXn_Xp.out.size hy)
        have kXp_y17 := Lib.hid (below_step kXp_Xp.out kXp_Xp.out.size hy)
        clear hy
        go_upto_region 15 with (fail)
        obtain ⟨x0, x1, x2⟩ := boxed y17 #[.int .i64 0, .int .i64 0, .slice none 0 0] #[.int .i64 0, .int .i64 0, .slice none 0 0] 24
        generalize World.setRow (World.alloc y17 _) _ _ = Xi at *
        have hli : y17.heap.size < Xi.heap.size := by omega
        have hvi : Hid (∀ z, Below Xi.heap.size Xi z → blk z y17.heap.size = some (.cells #[.int .i64 0, .int .i64 0, .slice none 0 0] 24 (0, 0))) := hide (fun z hz => (blk_below hz hli).trans (blk_of x0))
        have kXi_Xi : Hid (Below Xi.heap.size Xi Xi) := hide (Below.refl _ _)
        have kW_Xi := Lib.hid (below_step kW_y17.out kW_y17.out.size x2)
        have ky11_Xi := Lib.hid (below_step ky11_y17.out ky11_y17.out.size x2)
        have kXn_Xi := Lib.hid (below_step kXn_y17.out kXn_y17.out.size x2)
        have kXp_Xi := Lib.hid (below_step kXp_y17.out kXp_y17.out.size x2)
        obtain ⟨qi, hq⟩ : ∃ qi, y17.heap.size = qi := ⟨_, rfl⟩
        rw [hq] at hvi hli ⊢
        clear x0 x1 x2 hq
        have bb := hvn.out _ kXn_Xi.out
        go_wp2_with fail
        refine (l_none Xi).mono ?_
        rintro e y18 ⟨rfl, hy⟩
        have kW_y18 := Lib.hid (below_step kW_Xi.out kW_Xi.out.size hy)
        have ky11_y18 := Lib.hid (below_step ky11_Xi.out ky11_Xi.out.size hy)
        have kXn_y18 := Lib.hid (below_step kXn_Xi.out kXn_Xi.out.size hy)
        have kXp_y18 := Lib.hid (below_step kXp_Xi.out kXp_Xi.out.size hy)
        have kXi_y18 := Lib.hid (below_step kXi_Xi.out kXi_Xi.out.size hy)
        clear hy bb
        have bb := hvp.out _ kXp_y18.out
        go_wp2_with fail
        refine (l_none y18).mono ?_
        rintro e y19 ⟨rfl, hy⟩
        have kW_y19 := Lib.hid (below_step kW_y18.out kW_y18.out.size hy)
        have ky11_y19 := Lib.hid (below_step ky11_y18.out ky11_y18.out.size hy)
        have kXn_y19 := Lib.hid (below_step kXn_y18.out kXn_y18.out.size hy)
        have kXp_y19 := Lib.hid (below_step kXp_y18.out kXp_y18.out.size hy)
        have kXi_y19 := Lib.hid (below_step kXi_y18.out kXi_y18.out.size hy)
        clear hy bb
        have bb := hvi.out _ kXi_y19.out
        go_wp2_with fail
        refine (l_none y19).mono ?_
        rintro e y20 ⟨rfl, hy⟩
        have kW_y20 := Lib.hid (below_step kW_y19.out kW_y19.out.size hy)
        have ky11_y20 := Lib.hid (below_step ky11_y19.out ky11_y19.out.size hy)
        have kXn_y20 := Lib.hid (below_step kXn_y19.out kXn_y19.out.size hy)
        have kXp_y20 := Lib.hid (below_step kXp_y19.out kXp_y19.out.size hy)
        have kXi_y20 := Lib.hid (below_step kXi_y19.out kXi_y19.out.size hy)
        clear hy bb
        have hlast := Lib.hid (hfin.out _ kW_y20.out)
        go_wp2_with fail
        go_ret
        exact ⟨rfl, hlast.out⟩
      by_cases hb0 : 255 < a0
      · skip
        have d0 : decide (a0 < 0) = false := decide_eq_false (by omega)
        have d1 : decide (255 < a0) = true := decide_eq_true hb0
        have hbad : a0 < 0 ∨ ((i : Nat) : Int) < 0 ∨ 255 < a0 ∨ 255 < ((i : Nat) : Int) := .inr (.inr (.inl hb0))
        have hbad0 : a0 < 0 ∨ 255 < a0 := .inr hb0
        have hbadh := Lib.hid hbad
        have hbad0h := Lib.hid hbad0
        clear hbad hbad0
        go_wp2_with fail
        refine (m_new_no a0 (i : Nat) u0 hbadh.out).mono ?_
        rintro e y14 ⟨rfl, hy⟩
        have kW_y14 := Lib.hid (below_step kW_u0.out kW_u0.out.size hy)
        have ky11_y14 := Lib.hid (below_step ky11_u0.out ky11_u0.out.size hy)
        clear hy
        go_upto_region 13 with (fail)
        obtain ⟨x0, x1, x2⟩ := boxed y14 #[.int .i64 0, .int .i64 0, .slice none 0 0] #[.int .i64 0, .int .i64 0, .slice none 0 0] 24
        generalize World.setRow (World.alloc y14 _) _ _ = Xn at *
        have hln : y14.heap.size < Xn.heap.size := by omega
        have hvn : Hid (∀ z, Below Xn.heap.size Xn z → blk z y14.heap.size = some (.cells #[.int .i64 0, .int .i64 0, .slice none 0 0] 24 (0, 0))) := hide (fun z hz => (blk_below hz hln).trans (blk_of x0))
        have kXn_Xn : Hid (Below Xn.heap.size Xn Xn) := hide (Below.refl _ _)
        have kW_Xn := Lib.hid (below_step kW_y14.out kW_y14.out.size x2)
        have ky11_Xn := Lib.hid (below_step ky11_y14.out ky11_y14.out.size x2)
        obtain ⟨qn, hq⟩ : ∃ qn, y14.heap.size = qn := ⟨_, rfl⟩
        rw [hq] at hvn hln ⊢
        clear x0 x1 x2 hq
        go_wp2_with fail
        refine (gf_new_below Xn).mono ?_
        rintro e y15 ⟨rfl, hgf, hy⟩
        clear hgf
        have kW_y15 := Lib.hid (below_step kW_Xn.out kW_Xn.out.size hy)
        have ky11_y15 := Lib.hid (below_step ky11_Xn.out ky11_Xn.out.size hy)
        have kXn_y15 := Lib.hid (below_step kXn_Xn.out kXn_Xn.out.size hy)
        clear hy
        go_wp2_with fail
        refine (m_powers_no _ a0 (i : Nat) y15 hbadh.out).mono ?_
        rintro e y16 ⟨rfl, hy⟩
        have kW_y16 := Lib.hid (below_step kW_y15.out kW_y15.out.size hy)
        have ky11_y16 := Lib.hid (below_step ky11_y15.out ky11_y15.out.size hy)
        have kXn_y16 := Lib.hid (below_step kXn_y15.out kXn_y15.out.size hy)
        clear hy
        go_upto_region 14 with (fail)
        obtain ⟨x0, x1, x2⟩ := boxed y16 #[.int .i64 0, .int .i64 0, .slice none 0 0] #[.int .i64 0, .int .i64 0, .slice none 0 0] 24
        generalize World.setRow (World.alloc y16 _) _ _ = Xp at *
        have hlp : y16.heap.size < Xp.heap.size := by omega
        have hvp : Hid (∀ z, Below Xp.heap.size Xp z → blk z y16.heap.size = some (.cells #[.int .i64 0, .int .i64 0, .slice none 0 0] 24 (0, 0))) := hide (fun z hz => (blk_below hz hlp).trans (blk_of x0))
        have kXp_Xp : Hid (Below Xp.heap.size Xp Xp) := hide (Below.refl _ _)
        have kW_Xp := Lib.hid (below_step kW_y16.out kW_y16.out.size x2)
        have ky11_Xp := Lib.hid (below_step ky11_y16.out ky11_y16.out.size x2)
        have kXn_Xp := Lib.hid (below_step kXn_y16.out kXn_y16.out.size x2)
        obtain ⟨qp, hq⟩ : ∃ qp, y16.heap.size = qp := ⟨_, rfl⟩
        rw [hq] at hvp hlp ⊢
        clear x0 x1 x2 hq
        go_wp2_with fail
        refine (m_identity_no a0 Xp hbad0h.out).mono ?_
        rintro e y17 ⟨rfl, hy⟩
        have kW_y17 := Lib.hid (below_step kW_Xp.out kW_Xp.out.size hy)
        have ky11_y17 := Lib.hid (below_step ky11_Xp.out ky11_Xp.out.size hy)
        have kXn_y17 := Lib.hid (below_step kXn_Xp.out kXn_Xp.out.size hy)
        have kXp_y17 := Lib.hid (below_step kXp_Xp.out kXp_Xp.out.size hy)
        clear hy
        go_upto_region 15 with (fail)
        obtain ⟨x0, x1, x2⟩ := boxed y17 #[.int .i64 0, .int .i64 0, .slice none 0 0] #[.int .i64 0, .int .i64 0, .slice none 0 0] 24
        generalize World.setRow (World.alloc y17 _) _ _ = Xi at *
        have hli : y17.heap.size < Xi.heap.size := by omega
        have hvi : Hid (∀ z, Below Xi.heap.size Xi z → blk z y17.heap.size = some (.cells #[.int .i64 0, .int .i64 0, .slice none 0 0] 24 (0, 0))) := hide (fun z hz => (blk_below hz hli).trans (blk_of x0))
        have kXi_Xi : Hid (Below Xi.heap.size Xi Xi) := hide (Below.refl _ _)
        have kW_Xi := Lib.hid (below_step kW_y17.out kW_y17.out.size x2)
        have ky11_Xi := Lib.hid (below_step ky11_y17.out ky11_y17.out.size x2)
        have kXn_Xi := Lib.hid (below_step kXn_y17.out kXn_y17.out.size x2)
        have kXp_Xi := Lib.hid (below_step kXp_y17.out kXp_y17.out.size x2)
        obtain ⟨qi, hq⟩ : ∃ qi, y17.heap.size = qi := ⟨_, rfl⟩
        rw [hq] at hvi hli ⊢
        clear x0 x1 x2 hq
        have bb := hvn.out _ kXn_Xi.out
        go_wp2_with fail
        refine (l_none Xi).mono ?_
        rintro e y18 ⟨rfl, hy⟩
        have kW_y18 := Lib.hid (below_step kW_Xi.out kW_Xi.out.size hy)
        have ky11_y18 := Lib.hid (below_step ky11_Xi.out ky11_Xi.out.size hy)
        have kXn_y18 := Lib.hid (below_step kXn_Xi.out kXn_Xi.out.size hy)
        have kXp_y18 := Lib.hid (below_step kXp_Xi.out kXp_Xi.out.size hy)
        have kXi_y18 := Lib.hid (below_step kXi_Xi.out kXi_Xi.out.size hy)
        clear hy bb
        have bb := hvp.out _ kXp_y18.out
        go_wp2_with fail
        refine (l_none y18).mono ?_
        rintro e y19 ⟨rfl, hy⟩
        have kW_y19 := Lib.hid (below_step kW_y18.out kW_y18.out.size hy)
        have ky11_y19 := Lib.hid (below_step ky11_y18.out ky11_y18.out.size hy)
        have kXn_y19 := Lib.hid (below_step kXn_y18.out kXn_y18.out.size hy)
        have kXp_y19 := Lib.hid (below_step kXp_y18.out kXp_y18.out.size hy)
        have kXi_y19 := Lib.hid (below_step kXi_y18.out kXi_y18.out.size hy)
        clear hy bb
        have bb := hvi.out _ kXi_y19.out
        go_wp2_with fail
        refine (l_none y19).mono ?_
        rintro e y20 ⟨rfl, hy⟩
        have kW_y20 := Lib.hid (below_step kW_y19.out kW_y19.out.size hy)
        have ky11_y20 := Lib.hid (below_step ky11_y19.out ky11_y19.out.size hy)
        have kXn_y20 := Lib.hid (below_step kXn_y19.out kXn_y19.out.size hy)
        have kXp_y20 := Lib.hid (below_step kXp_y19.out kXp_y19.out.size hy)
        have kXi_y20 := Lib.hid (below_step kXi_y19.out kXi_y19.out.size hy)
        clear hy bb
        have hlast := Lib.hid (hfin.out _ kW_y20.out)
        go_wp2_with fail
        go_ret
        exact ⟨rfl, hlast.out⟩
      obtain ⟨R, hRe⟩ : ∃ R : Nat, a0 = R := ⟨a0.toNat, by omega⟩
      subst hRe
      have hR : R ≤ 255 := by omega
      clear ha0 hb0
      obtain ⟨C, hCe⟩ : ∃ C : Nat, i = C := ⟨i, rfl⟩
      subst hCe
      have hC : i ≤ 255 := by omega
      have hrc := rc_le hR hC
      have hn1 : ((R : Int) * (i : Int)) = ((R * i : Nat) : Int) := by simp
      have e3 : IntKind.i64.wrap ((R : Int) * (i : Int)) = ((R * i : Nat) : Int) := by rw [hn1]; exact IntWalk.i64_in _ (by omega)
      have hmk : ∀ x : World, (Instr.makeSlice 22 (.int .i64 ((R * i : Nat) : Int)) (.int .i64 ((R * i : Nat) : Int))).run Try.prog x = .ok (.slice (some ⟨x.heap.size, 0, none⟩) (R * i) (R * i)) (x.alloc (.cells (madeCells #[.int .u8 0] (R * i)) 5)) := fun x => make_row (P := Try.prog) Try.underlying22 info8 (R * i) (by omega) (by decide) x
      have hmrow : Hid (∀ x : World, MAt (x.alloc (.cells (madeCells #[.int .u8 0] (R * i)) 5)) (some ⟨x.heap.size, 0, none⟩) R i (fun _ _ => 0)) := hide (fun x => (MRow.of (brow_made x (R * i)) (fun _ _ _ _ => rfl)).mat)
      have kxp := Lib.hid (fun y => x_powers R i y hR hC)
      have hbyl := Lib.hid (fun (y : World) (s : Option Addr) (G : Nat → Nat → Nat) (h : MAt y s R i G) => h.by)
      have kxp2 : Hid (∀ y, Calls Try.prog 27 #[.int .i64 (R : Nat), .int .i64 (i : Nat)] y (fun e w' => ∃ s cap, e = .returned (.agg #[.int .i64 (R : Nat), .int .i64 (i : Nat), .slice s (R * i) cap]) ∧ MAt w' s R i pwF ∧ Below y.heap.size y w')) := hide (fun y => (x_powers R i y hR hC).mono (fun e w' ⟨s, cap, h1, h2, _, _, h3⟩ => ⟨s, cap, h1, h2, h3⟩))
      obtain ⟨L, hLe⟩ : ∃ L, R * i = L := ⟨_, rfl⟩
      have hL := Lib.hid hLe
      rw [hLe] at e3 hmk hmrow hrc hbyl kxp2
      have e3h := Lib.hid e3
      have hmkh := Lib.hid hmk
      have hL8 := Nat.le_trans hrc (show 65025 ≤ 100000000 by decide)
      clear hLe hn1 e3 hmk kxp
      go_wp2_with fail
      refine (m_new R i u0 hR hC).mono ?_
      rintro e y14 ⟨gn, rfl, hgi, hmi0, hy⟩
      have hmi1 := Lib.hid hmi0.mat
      have hmi2 := Lib.hid (fun z (hz : Below y14.heap.size y14 z) => hmi1.out.below hz)
      clear hmi0 hgi hmi1
      have kW_y14 := Lib.hid (below_step kW_u0.out kW_u0.out.size hy)
      have ky11_y14 := Lib.hid (below_step ky11_u0.out ky11_u0.out.size hy)
      clear hy
      have hmk0 : Hid (∀ b (D : Array Value), MAt ((World.alloc y14 b).setRow y14.heap.size D) (some ⟨gn, 0, none⟩) R i (fun _ _ => 0)) := hide (fun b D => hmi2.out _ (below_setRow ((Below.refl _ _).alloc (Nat.le_refl _) _) (Nat.le_refl _) _))
      clear hmi2
      rw [hL.out]
      go_upto_region 13 with (fail)
      obtain ⟨x0, x1, x2⟩ := boxed y14 #[.int .i64 0, .int .i64 0, .slice none 0 0] #[.int .i64 (R : Nat), .int .i64 (i : Nat), .slice (some ⟨gn, 0, none⟩) (L) (L)] 24
      have hmx := Lib.hid (hmk0.out (.cells #[.int .i64 0, .int .i64 0, .slice none 0 0] 24) #[.int .i64 (R : Nat), .int .i64 (i : Nat), .slice (some ⟨gn, 0, none⟩) (L) (L)])
      generalize World.setRow (World.alloc y14 _) _ _ = Xn at *
      have hmn : Hid (∀ z, Below Xn.heap.size Xn z → MAt z (some ⟨gn, 0, none⟩) R i (fun _ _ => 0)) := hide (fun z hz => hmx.out.below hz)
      have hln : y14.heap.size < Xn.heap.size := by omega
      have hvn : Hid (∀ z, Below Xn.heap.size Xn z → blk z y14.heap.size = some (.cells #[.int .i64 (R : Nat), .int .i64 (i : Nat), .slice (some ⟨gn, 0, none⟩) (L) (L)] 24 (0, 0))) := hide (fun z hz => (blk_below hz hln).trans (blk_of x0))
      have kXn_Xn : Hid (Below Xn.heap.size Xn Xn) := hide (Below.refl _ _)
      have kW_Xn := Lib.hid (below_step kW_y14.out kW_y14.out.size x2)
      have ky11_Xn := Lib.hid (below_step ky11_y14.out ky11_y14.out.size x2)
      obtain ⟨qn, hq⟩ : ∃ qn, y14.heap.size = qn := ⟨_, rfl⟩
      rw [hq] at hvn hln ⊢
      clear x0 x1 x2 hq hmx hmk0
      go_wp2_with fail
      refine (gf_new_below Xn).mono ?_
      rintro e y15 ⟨rfl, hgf, hy⟩
      have hgfh := Lib.hid hgf
      clear hgf
      have kW_y15 := Lib.hid (below_step kW_Xn.out kW_Xn.out.size hy)
      have ky11_y15 := Lib.hid (below_step ky11_Xn.out ky11_Xn.out.size hy)
      have kXn_y15 := Lib.hid (below_step kXn_Xn.out kXn_Xn.out.size hy)
      clear hy
      go_wp2_with fail
      refine (m_powers _ R i y15 hgfh.out hR hC).mono ?_
      rintro e y16 ⟨gp, rfl, hgi, hmi0, hy⟩
      have hmi1 := Lib.hid hmi0.mat
      have hmi2 := Lib.hid (fun z (hz : Below y16.heap.size y16 z) => hmi1.out.below hz)
      clear hmi0 hgi hmi1
      have kW_y16 := Lib.hid (below_step kW_y15.out kW_y15.out.size hy)
      have ky11_y16 := Lib.hid (below_step ky11_y15.out ky11_y15.out.size hy)
      have kXn_y16 := Lib.hid (below_step kXn_y15.out kXn_y15.out.size hy)
      clear hy
      have hmk0 : Hid (∀ b (D : Array Value), MAt ((World.alloc y16 b).setRow y16.heap.size D) (some ⟨gp, 0, none⟩) R i pwF) := hide (fun b D => hmi2.out _ (below_setRow ((Below.refl _ _).alloc (Nat.le_refl _) _) (Nat.le_refl _) _))
      clear hmi2
      rw [hL.out]
      go_upto_region 14 with (fail)
      obtain ⟨x0, x1, x2⟩ := boxed y16 #[.int .i64 0, .int .i64 0, .slice none 0 0] #[.int .i64 (R : Nat), .int .i64 (i : Nat), .slice (some ⟨gp, 0, none⟩) (L) (L)] 24
      have hmx := Lib.hid (hmk0.out (.cells #[.int .i64 0, .int .i64 0, .slice none 0 0] 24) #[.int .i64 (R : Nat), .int .i64 (i : Nat), .slice (some ⟨gp, 0, none⟩) (L) (L)])
      generalize World.setRow (World.alloc y16 _) _ _ = Xp at *
      have hmp : Hid (∀ z, Below Xp.heap.size Xp z → MAt z (some ⟨gp, 0, none⟩) R i pwF) := hide (fun z hz => hmx.out.below hz)
      have hlp : y16.heap.size < Xp.heap.size := by omega
      have hvp : Hid (∀ z, Below Xp.heap.size Xp z → blk z y16.heap.size = some (.cells #[.int .i64 (R : Nat), .int .i64 (i : Nat), .slice (some ⟨gp, 0, none⟩) (L) (L)] 24 (0, 0))) := hide (fun z hz => (blk_below hz hlp).trans (blk_of x0))
      have kXp_Xp : Hid (Below Xp.heap.size Xp Xp) := hide (Below.refl _ _)
      have kW_Xp := Lib.hid (below_step kW_y16.out kW_y16.out.size x2)
      have ky11_Xp := Lib.hid (below_step ky11_y16.out ky11_y16.out.size x2)
      have kXn_Xp := Lib.hid (below_step kXn_y16.out kXn_y16.out.size x2)
      obtain ⟨qp, hq⟩ : ∃ qp, y16.heap.size = qp := ⟨_, rfl⟩
      rw [hq] at hvp hlp ⊢
      clear x0 x1 x2 hq hmx hmk0
      go_wp2_with fail
      refine (m_identity R Xp hR).mono ?_
      rintro e y17 ⟨gi, rfl, hgi, hmi0, hy⟩
      have hmi1 := Lib.hid hmi0.mat
      have hmi2 := Lib.hid (fun z (hz : Below y17.heap.size y17 z) => hmi1.out.below hz)
      clear hmi0 hgi hmi1
      have kW_y17 := Lib.hid (below_step kW_Xp.out kW_Xp.out.size hy)
      have ky11_y17 := Lib.hid (below_step ky11_Xp.out ky11_Xp.out.size hy)
      have kXn_y17 := Lib.hid (below_step kXn_Xp.out kXn_Xp.out.size hy)
      have kXp_y17 := Lib.hid (below_step kXp_Xp.out kXp_Xp.out.size hy)
      clear hy
      have hmk0 : Hid (∀ b (D : Array Value), MAt ((World.alloc y17 b).setRow y17.heap.size D) (some ⟨gi, 0, none⟩) R R idF) := hide (fun b D => hmi2.out _ (below_setRow ((Below.refl _ _).alloc (Nat.le_refl _) _) (Nat.le_refl _) _))
      clear hmi2
      go_upto_region 15 with (fail)
      obtain ⟨x0, x1, x2⟩ := boxed y17 #[.int .i64 0, .int .i64 0, .slice none 0 0] #[.int .i64 (R : Nat), .int .i64 (R : Nat), .slice (some ⟨gi, 0, none⟩) (R * R) (R * R)] 24
      have hmx := Lib.hid (hmk0.out (.cells #[.int .i64 0, .int .i64 0, .slice none 0 0] 24) #[.int .i64 (R : Nat), .int .i64 (R : Nat), .slice (some ⟨gi, 0, none⟩) (R * R) (R * R)])
      generalize World.setRow (World.alloc y17 _) _ _ = Xi at *
      have hmi : Hid (∀ z, Below Xi.heap.size Xi z → MAt z (some ⟨gi, 0, none⟩) R R idF) := hide (fun z hz => hmx.out.below hz)
      have hli : y17.heap.size < Xi.heap.size := by omega
      have hvi : Hid (∀ z, Below Xi.heap.size Xi z → blk z y17.heap.size = some (.cells #[.int .i64 (R : Nat), .int .i64 (R : Nat), .slice (some ⟨gi, 0, none⟩) (R * R) (R * R)] 24 (0, 0))) := hide (fun z hz => (blk_below hz hli).trans (blk_of x0))
      have kXi_Xi : Hid (Below Xi.heap.size Xi Xi) := hide (Below.refl _ _)
      have kW_Xi := Lib.hid (below_step kW_y17.out kW_y17.out.size x2)
      have ky11_Xi := Lib.hid (below_step ky11_y17.out ky11_y17.out.size x2)
      have kXn_Xi := Lib.hid (below_step kXn_y17.out kXn_y17.out.size x2)
      have kXp_Xi := Lib.hid (below_step kXp_y17.out kXp_y17.out.size x2)
      obtain ⟨qi, hq⟩ : ∃ qi, y17.heap.size = qi := ⟨_, rfl⟩
      rw [hq] at hvi hli ⊢
      clear x0 x1 x2 hq hmx hmk0
      have bb := hvi.out _ kXi_Xi.out
      go_wp2_with fail
      refine (l_ref R R (some ⟨gi, 0, none⟩) (R * R) (R * R) Xi).mono ?_
      rintro e y18 ⟨rfl, hy⟩
      have kW_y18 := Lib.hid (below_step kW_Xi.out kW_Xi.out.size hy)
      have ky11_y18 := Lib.hid (below_step ky11_Xi.out ky11_Xi.out.size hy)
      have kXn_y18 := Lib.hid (below_step kXn_Xi.out kXn_Xi.out.size hy)
      have kXp_y18 := Lib.hid (below_step kXp_Xi.out kXp_Xi.out.size hy)
      have kXi_y18 := Lib.hid (below_step kXi_Xi.out kXi_Xi.out.size hy)
      clear hy bb
      skip
      go_wp2_with fail
      refine (x_identity R y18 hR).mono ?_
      rintro e y19 ⟨si, ci, rfl, hmJ, _, _, hy⟩
      have hmJh := Lib.hid hmJ
      clear hmJ
      have kW_y19 := Lib.hid (below_step kW_y18.out kW_y18.out.size hy)
      have ky11_y19 := Lib.hid (below_step ky11_y18.out ky11_y18.out.size hy)
      have kXn_y19 := Lib.hid (below_step kXn_y18.out kXn_y18.out.size hy)
      have kXp_y19 := Lib.hid (below_step kXp_y18.out kXp_y18.out.size hy)
      have kXi_y19 := Lib.hid (below_step kXi_y18.out kXi_y18.out.size hy)
      clear hy
      go_wp2_with fail
      refine (x_same R R (some ⟨gi, 0, none⟩) si (R * R) ci (R * R) (flF R idF) y19 (hmi.out _ kXi_y19.out).by hmJh.out.by (Nat.le_trans (rc_le hR hR) (by decide))).mono ?_
      rintro e y20 ⟨rfl, hy⟩
      have kW_y20 := Lib.hid (below_step kW_y19.out kW_y19.out.size hy)
      have ky11_y20 := Lib.hid (below_step ky11_y19.out ky11_y19.out.size hy)
      have kXn_y20 := Lib.hid (below_step kXn_y19.out kXn_y19.out.size hy)
      have kXp_y20 := Lib.hid (below_step kXp_y19.out kXp_y19.out.size hy)
      have kXi_y20 := Lib.hid (below_step kXi_y19.out kXi_y19.out.size hy)
      clear hy
      go_upto_region 21 with (fail)
      go_cut [165] (fun v wx => v = .bool false ∧ Below y20.heap.size y20 wx)
      case first =>
        have hS9 : Hid (∀ z, Below y20.heap.size y20 z → (fun y : World => blk y qn = some (.cells #[.int .i64 (R : Nat), .int .i64 (i : Nat), .slice (some ⟨gn, 0, none⟩) L L] 24 (0, 0))) z) := hide (fun z hz => hvn.out z (below_step kXn_y20.out kXn_y20.out.size hz))
        have hm9 : Hid (∀ z, Below y20.heap.size y20 z → MAt z (some ⟨gn, 0, none⟩) R i (fun _ _ => 0)) := hide (fun z hz => hmn.out z (below_step kXn_y20.out kXn_y20.out.size hz))
        have hBd : Hid (Below y20.heap.size y20 y20.drew) := hide (below_drewN (Below.refl _ _) 1)
        have e3 := e3h.out
        refine h_begin 19 (fun y : World => blk y qn = some (.cells #[.int .i64 (R : Nat), .int .i64 (i : Nat), .slice (some ⟨gn, 0, none⟩) L L] 24 (0, 0))) rfl (by kernel_rfl) (hS9.out _ hBd.out) ?_
        have hHeld : (fun y : World => blk y qn = some (.cells #[.int .i64 (R : Nat), .int .i64 (i : Nat), .slice (some ⟨gn, 0, none⟩) L L] 24 (0, 0))) y20.drew := hS9.out _ hBd.out
        first
          | (refine h_run (i := 0) (v := ?_) hHeld rfl (by kernel_rfl) (by kernel_rfl) (by kernel_rfl) ?_ ?_ ?_
             rotate_left
             · rfl
             · (intro x hSx; (try dsimp only at hSx); go_simp <;> with_reducible rfl)
             simp only [Act.put, List.setIfInBounds_toArray, List.set_cons_zero, List.set_cons_succ])
          | (refine h_skip (i := 0) hHeld rfl (by kernel_rfl) (by kernel_rfl) (by kernel_rfl) ?_ ?_
             · rfl
             simp only [Act.put, List.setIfInBounds_toArray, List.set_cons_zero, List.set_cons_succ])
        first
          | (refine h_run (i := 1) (v := ?_) hHeld rfl (by kernel_rfl) (by kernel_rfl) (by kernel_rfl) ?_ ?_ ?_
             rotate_left
             · rfl
             · (intro x hSx; (try dsimp only at hSx); go_simp <;> with_reducible rfl)
             simp only [Act.put, List.setIfInBounds_toArray, List.set_cons_zero, List.set_cons_succ])
          | (refine h_skip (i := 1) hHeld rfl (by kernel_rfl) (by kernel_rfl) (by kernel_rfl) ?_ ?_
             · rfl
             simp only [Act.put, List.setIfInBounds_toArray, List.set_cons_zero, List.set_cons_succ])
        first
          | (refine h_run (i := 2) (v := ?_) hHeld rfl (by kernel_rfl) (by kernel_rfl) (by kernel_rfl) ?_ ?_ ?_
             rotate_left
             · rfl
             · (intro x hSx; (try dsimp only at hSx); go_simp <;> with_reducible rfl)
             simp only [Act.put, List.setIfInBounds_toArray, List.set_cons_zero, List.set_cons_succ])
          | (refine h_skip (i := 2) hHeld rfl (by kernel_rfl) (by kernel_rfl) (by kernel_rfl) ?_ ?_
             · rfl
             simp only [Act.put, List.setIfInBounds_toArray, List.set_cons_zero, List.set_cons_succ])
        first
          | (refine h_run (i := 3) (v := ?_) hHeld rfl (by kernel_rfl) (by kernel_rfl) (by kernel_rfl) ?_ ?_ ?_
             rotate_left
             · rfl
             · (intro x hSx; (try dsimp only at hSx); go_simp <;> with_reducible rfl)
             simp only [Act.put, List.setIfInBounds_toArray, List.set_cons_zero, List.set_cons_succ])
          | (refine h_skip (i := 3) hHeld rfl (by kernel_rfl) (by kernel_rfl) (by kernel_rfl) ?_ ?_
             · rfl
             simp only [Act.put, List.setIfInBounds_toArray, List.set_cons_zero, List.set_cons_succ])
        first
          | (refine h_run (i := 4) (v := ?_) hHeld rfl (by kernel_rfl) (by kernel_rfl) (by kernel_rfl) ?_ ?_ ?_
             rotate_left
             · rfl
             · (intro x hSx; (try dsimp only at hSx); go_simp <;> with_reducible rfl)
             simp only [Act.put, List.setIfInBounds_toArray, List.set_cons_zero, List.set_cons_succ])
          | (refine h_skip (i := 4) hHeld rfl (by kernel_rfl) (by kernel_rfl) (by kernel_rfl) ?_ ?_
             · rfl
             simp only [Act.put, List.setIfInBounds_toArray, List.set_cons_zero, List.set_cons_succ])
        first
          | (refine h_run (i := 5) (v := ?_) hHeld rfl (by kernel_rfl) (by kernel_rfl) (by kernel_rfl) ?_ ?_ ?_
             rotate_left
             · rfl
             · (intro x hSx; (try dsimp only at hSx); go_simp <;> with_reducible rfl)
             simp only [Act.put, List.setIfInBounds_toArray, List.set_cons_zero, List.set_cons_succ])
          | (refine h_skip (i := 5) hHeld rfl (by kernel_rfl) (by kernel_rfl) (by kernel_rfl) ?_ ?_
             · rfl
             simp only [Act.put, List.setIfInBounds_toArray, List.set_cons_zero, List.set_cons_succ])
        first
          | (refine h_run (i := 6) (v := ?_) hHeld rfl (by kernel_rfl) (by kernel_rfl) (by kernel_rfl) ?_ ?_ ?_
             rotate_left
             · rfl
             · (intro x hSx; (try dsimp only at hSx); go_simp <;> with_reducible rfl)
             simp only [Act.put, List.setIfInBounds_toArray, List.set_cons_zero, List.set_cons_succ])
          | (refine h_skip (i := 6) hHeld rfl (by kernel_rfl) (by kernel_rfl) (by kernel_rfl) ?_ ?_
             · rfl
             simp only [Act.put, List.setIfInBounds_toArray, List.set_cons_zero, List.set_cons_succ])
        first
          | (refine h_run (i := 7) (v := ?_) hHeld rfl (by kernel_rfl) (by kernel_rfl) (by kernel_rfl) ?_ ?_ ?_
             rotate_left
             · rfl
             · (intro x hSx; (try dsimp only at hSx); go_simp <;> with_reducible rfl)
             simp only [Act.put, List.setIfInBounds_toArray, List.set_cons_zero, List.set_cons_succ])
          | (refine h_skip (i := 7) hHeld rfl (by kernel_rfl) (by kernel_rfl) (by kernel_rfl) ?_ ?_
             · rfl
             simp only [Act.put, List.setIfInBounds_toArray, List.set_cons_zero, List.set_cons_succ])
        first
          | (refine h_run (i := 9) (v := ?_) hHeld rfl (by kernel_rfl) (by kernel_rfl) (by kernel_rfl) ?_ ?_ ?_
             rotate_left
             · rfl
             · (intro x hSx; (try dsimp only at hSx); go_simp <;> with_reducible rfl)
             simp only [Act.put, List.setIfInBounds_toArray, List.set_cons_zero, List.set_cons_succ])
          | (refine h_skip (i := 9) hHeld rfl (by kernel_rfl) (by kernel_rfl) (by kernel_rfl) ?_ ?_
             · rfl
             simp only [Act.put, List.setIfInBounds_toArray, List.set_cons_zero, List.set_cons_succ])
        first
          | (refine h_run (i := 10) (v := ?_) hHeld rfl (by kernel_rfl) (by kernel_rfl) (by kernel_rfl) ?_ ?_ ?_
             rotate_left
             · rfl
             · (intro x hSx; (try dsimp only at hSx); go_simp <;> with_reducible rfl)
             simp only [Act.put, List.setIfInBounds_toArray, List.set_cons_zero, List.set_cons_succ])
          | (refine h_skip (i := 10) hHeld rfl (by kernel_rfl) (by kernel_rfl) (by kernel_rfl) ?_ ?_
             · rfl
             simp only [Act.put, List.setIfInBounds_toArray, List.set_cons_zero, List.set_cons_succ])
        first
          | (refine h_run (i := 11) (v := ?_) hHeld rfl (by kernel_rfl) (by kernel_rfl) (by kernel_rfl) ?_ ?_ ?_
             rotate_left
             · rfl
             · (intro x hSx; (try dsimp only at hSx); go_simp <;> with_reducible rfl)
             simp only [Act.put, List.setIfInBounds_toArray, List.set_cons_zero, List.set_cons_succ])
          | (refine h_skip (i := 11) hHeld rfl (by kernel_rfl) (by kernel_rfl) (by kernel_rfl) ?_ ?_
             · rfl
             simp only [Act.put, List.setIfInBounds_toArray, List.set_cons_zero, List.set_cons_succ])
        first
          | (refine h_run (i := 12) (v := ?_) hHeld rfl (by kernel_rfl) (by kernel_rfl) (by kernel_rfl) ?_ ?_ ?_
             rotate_left
             · rfl
             · (intro x hSx; (try dsimp only at hSx); go_simp <;> with_reducible rfl)
             simp only [Act.put, List.setIfInBounds_toArray, List.set_cons_zero, List.set_cons_succ])
          | (refine h_skip (i := 12) hHeld rfl (by kernel_rfl) (by kernel_rfl) (by kernel_rfl) ?_ ?_
             · rfl
             simp only [Act.put, List.setIfInBounds_toArray, List.set_cons_zero, List.set_cons_succ])
        first
          | (refine h_run (i := 13) (v := ?_) hHeld rfl (by kernel_rfl) (by kernel_rfl) (by kernel_rfl) ?_ ?_ ?_
             rotate_left
             · rfl
             · (intro x hSx; (try dsimp only at hSx); go_simp <;> with_reducible rfl)
             simp only [Act.put, List.setIfInBounds_toArray, List.set_cons_zero, List.set_cons_succ])
          | (refine h_skip (i := 13) hHeld rfl (by kernel_rfl) (by kernel_rfl) (by kernel_rfl) ?_ ?_
             · rfl
             simp only [Act.put, List.setIfInBounds_toArray, List.set_cons_zero, List.set_cons_succ])
        clear hHeld e3
        have hmk := hmkh.out
        generalize y20.drew = z at *
        have hWd : y20.heap.size ≤ z.heap.size := hBd.out.size
        have hal : Below y20.heap.size y20 (z.alloc (.cells (madeCells #[.int .u8 0] L) 5)) := hBd.out.alloc hWd _
        refine h_pairN (i := 14) (j := 8) (v := .slice (some ⟨z.heap.size, 0, none⟩) L L) (w1 := z.alloc (.cells (madeCells #[.int .u8 0] L) 5)) (l_ref R i (some ⟨gn, 0, none⟩) L L z) rfl rfl (by kernel_rfl) rfl rfl ?_ ?_ (hS9.out _ hal) ?_ ?_
        · go_simp <;> with_reducible rfl
        · go_simp <;> with_reducible rfl
        · have hmz := Lib.hid (hmrow.out z)
          have halh := Lib.hid hal
          clear hal hmk
          generalize z.alloc (.cells (madeCells #[.int .u8 0] L) 5) = z1 at *
          have hHeld : (fun y : World => blk y qn = some (.cells #[.int .i64 (R : Nat), .int .i64 (i : Nat), .slice (some ⟨gn, 0, none⟩) L L] 24 (0, 0))) z1 := hS9.out _ halh.out
          first
            | (refine h_run (i := 15) (v := ?_) hHeld rfl (by kernel_rfl) (by kernel_rfl) (by kernel_rfl) ?_ ?_ ?_
               rotate_left
               · rfl
               · (intro x hSx; (try dsimp only at hSx); go_simp <;> with_reducible rfl)
               simp only [Act.put, List.setIfInBounds_toArray, List.set_cons_zero, List.set_cons_succ])
            | (refine h_skip (i := 15) hHeld rfl (by kernel_rfl) (by kernel_rfl) (by kernel_rfl) ?_ ?_
               · rfl
               simp only [Act.put, List.setIfInBounds_toArray, List.set_cons_zero, List.set_cons_succ])
          clear hHeld
          refine h_call (i := 8) (fun y : World => blk y qn = some (.cells #[.int .i64 (R : Nat), .int .i64 (i : Nat), .slice (some ⟨gn, 0, none⟩) L L] 24 (0, 0))) (fun _ h => h) (l_ref R i (some ⟨gn, 0, none⟩) L L z1) rfl (by kernel_rfl) rfl ?_ ?_
          · go_simp <;> with_reducible rfl
          rintro e z2 ⟨rfl, hy⟩
          have hz2 := Lib.hid (below_step halh.out halh.out.size hy)
          have hmz2 := Lib.hid (hmz.out.below hy)
          refine ⟨_, rfl, hS9.out _ hz2.out, ?_⟩
          clear hy
          refine h_call (i := 16) (fun y : World => blk y qn = some (.cells #[.int .i64 (R : Nat), .int .i64 (i : Nat), .slice (some ⟨gn, 0, none⟩) L L] 24 (0, 0))) (fun _ h => h) (x_same R i (some ⟨gn, 0, none⟩) (some ⟨z.heap.size, 0, none⟩) L L L (flF i (fun _ _ => 0)) z2 (hbyl.out _ _ _ (hm9.out _ hz2.out)) (hbyl.out _ _ _ hmz2.out) hL8) rfl (by kernel_rfl) rfl ?_ ?_
          · go_simp <;> with_reducible rfl
          rintro e z3 ⟨rfl, hy⟩
          have hz3 := Lib.hid (below_step hz2.out hz2.out.size hy)
          refine ⟨_, rfl, hS9.out _ hz3.out, ?_⟩
          clear hy
          have hHeld : (fun y : World => blk y qn = some (.cells #[.int .i64 (R : Nat), .int .i64 (i : Nat), .slice (some ⟨gn, 0, none⟩) L L] 24 (0, 0))) z3 := hS9.out _ hz3.out
          first
            | (refine h_run (i := 17) (v := ?_) hHeld rfl (by kernel_rfl) (by kernel_rfl) (by kernel_rfl) ?_ ?_ ?_
               rotate_left
               · rfl
               · (intro x hSx; (try dsimp only at hSx); go_simp <;> with_reducible rfl)
               simp only [Act.put, List.setIfInBounds_toArray, List.set_cons_zero, List.set_cons_succ])
            | (refine h_skip (i := 17) hHeld rfl (by kernel_rfl) (by kernel_rfl) (by kernel_rfl) ?_ ?_
               · rfl
               simp only [Act.put, List.setIfInBounds_toArray, List.set_cons_zero, List.set_cons_succ])
          first
            | (refine h_run (i := 18) (v := ?_) hHeld rfl (by kernel_rfl) (by kernel_rfl) (by kernel_rfl) ?_ ?_ ?_
               rotate_left
               · rfl
               · (intro x hSx; (try dsimp only at hSx); go_simp <;> with_reducible rfl)
               simp only [Act.put, List.setIfInBounds_toArray, List.set_cons_zero, List.set_cons_succ])
            | (refine h_skip (i := 18) hHeld rfl (by kernel_rfl) (by kernel_rfl) (by kernel_rfl) ?_ ?_
               · rfl
               simp only [Act.put, List.setIfInBounds_toArray, List.set_cons_zero, List.set_cons_succ])
          clear hHeld
          refine h_done (by kernel_rfl) ?_
          go_wp2_with fail
          go_meet
          exact ⟨rfl, hz3.out⟩
        · rintro e z1 ⟨rfl, hy⟩
          have hz1 := Lib.hid (below_step hBd.out hBd.out.size hy)
          refine ⟨_, rfl, hS9.out _ hz1.out, ?_⟩
          clear hy hal
          have hal : Below y20.heap.size y20 (z1.alloc (.cells (madeCells #[.int .u8 0] L) 5)) := hz1.out.alloc hz1.out.size _
          have hHeld : (fun y : World => blk y qn = some (.cells #[.int .i64 (R : Nat), .int .i64 (i : Nat), .slice (some ⟨gn, 0, none⟩) L L] 24 (0, 0))) z1 := hS9.out _ hz1.out
          refine h_value (i := 14) (v := .slice (some ⟨z1.heap.size, 0, none⟩) L L) (w' := z1.alloc (.cells (madeCells #[.int .u8 0] L) 5)) (fun y : World => blk y qn = some (.cells #[.int .i64 (R : Nat), .int .i64 (i : Nat), .slice (some ⟨gn, 0, none⟩) L L] 24 (0, 0))) (fun _ h => h) rfl (by kernel_rfl) rfl ?_ (hS9.out _ hal) ?_
          · go_simp <;> with_reducible rfl
          have hmz := Lib.hid (hmrow.out z1)
          have halh := Lib.hid hal
          clear hal hmk hHeld
          generalize z1.alloc (.cells (madeCells #[.int .u8 0] L) 5) = z2 at *
          have hHeld : (fun y : World => blk y qn = some (.cells #[.int .i64 (R : Nat), .int .i64 (i : Nat), .slice (some ⟨gn, 0, none⟩) L L] 24 (0, 0))) z2 := hS9.out _ halh.out
          first
            | (refine h_run (i := 15) (v := ?_) hHeld rfl (by kernel_rfl) (by kernel_rfl) (by kernel_rfl) ?_ ?_ ?_
               rotate_left
               · rfl
               · (intro x hSx; (try dsimp only at hSx); go_simp <;> with_reducible rfl)
               simp only [Act.put, List.setIfInBounds_toArray, List.set_cons_zero, List.set_cons_succ])
            | (refine h_skip (i := 15) hHeld rfl (by kernel_rfl) (by kernel_rfl) (by kernel_rfl) ?_ ?_
               · rfl
               simp only [Act.put, List.setIfInBounds_toArray, List.set_cons_zero, List.set_cons_succ])
          clear hHeld
          refine h_call (i := 16) (fun y : World => blk y qn = some (.cells #[.int .i64 (R : Nat), .int .i64 (i : Nat), .slice (some ⟨gn, 0, none⟩) L L] 24 (0, 0))) (fun _ h => h) (x_same R i (some ⟨gn, 0, none⟩) (some ⟨z1.heap.size, 0, none⟩) L L L (flF i (fun _ _ => 0)) z2 (hbyl.out _ _ _ (hm9.out _ halh.out)) (hbyl.out _ _ _ hmz.out) hL8) rfl (by kernel_rfl) rfl ?_ ?_
          · go_simp <;> with_reducible rfl
          rintro e z3 ⟨rfl, hy⟩
          have hz3 := Lib.hid (below_step halh.out halh.out.size hy)
          refine ⟨_, rfl, hS9.out _ hz3.out, ?_⟩
          clear hy
          have hHeld : (fun y : World => blk y qn = some (.cells #[.int .i64 (R : Nat), .int .i64 (i : Nat), .slice (some ⟨gn, 0, none⟩) L L] 24 (0, 0))) z3 := hS9.out _ hz3.out
          first
            | (refine h_run (i := 17) (v := ?_) hHeld rfl (by kernel_rfl) (by kernel_rfl) (by kernel_rfl) ?_ ?_ ?_
               rotate_left
               · rfl
               · (intro x hSx; (try dsimp only at hSx); go_simp <;> with_reducible rfl)
               simp only [Act.put, List.setIfInBounds_toArray, List.set_cons_zero, List.set_cons_succ])
            | (refine h_skip (i := 17) hHeld rfl (by kernel_rfl) (by kernel_rfl) (by kernel_rfl) ?_ ?_
               · rfl
               simp only [Act.put, List.setIfInBounds_toArray, List.set_cons_zero, List.set_cons_succ])
          first
            | (refine h_run (i := 18) (v := ?_) hHeld rfl (by kernel_rfl) (by kernel_rfl) (by kernel_rfl) ?_ ?_ ?_
               rotate_left
               · rfl
               · (intro x hSx; (try dsimp only at hSx); go_simp <;> with_reducible rfl)
               simp only [Act.put, List.setIfInBounds_toArray, List.set_cons_zero, List.set_cons_succ])
            | (refine h_skip (i := 18) hHeld rfl (by kernel_rfl) (by kernel_rfl) (by kernel_rfl) ?_ ?_
               · rfl
               simp only [Act.put, List.setIfInBounds_toArray, List.set_cons_zero, List.set_cons_succ])
          clear hHeld
          refine h_done (by kernel_rfl) ?_
          go_wp2_with fail
          go_meet
          exact ⟨rfl, hz3.out⟩
      case rest =>
        obtain ⟨rfl, hy⟩ := hcut
        have kW_wc := Lib.hid (below_step kW_y20.out kW_y20.out.size hy)
        have ky11_wc := Lib.hid (below_step ky11_y20.out ky11_y20.out.size hy)
        have kXn_wc := Lib.hid (below_step kXn_y20.out kXn_y20.out.size hy)
        have kXp_wc := Lib.hid (below_step kXp_y20.out kXp_y20.out.size hy)
        have kXi_wc := Lib.hid (below_step kXi_y20.out kXi_y20.out.size hy)
        clear hy
        have e3 := e3h.out
        by_cases h4 : 400 < L
        · have g3 : decide ((400 : Int) < (L : Int)) = true := decide_eq_true (by omega)
          have g4 : decide (400 < L) = true := decide_eq_true h4
          have hlast := Lib.hid (hfin.out _ kW_wc.out)
          go_wp2_with fail
          go_ret
          exact ⟨rfl, hlast.out⟩
        · have g3 : decide ((400 : Int) < (L : Int)) = false := decide_eq_false (by omega)
          have g4 : decide (400 < L) = false := decide_eq_false h4
          have bb := hvp.out _ kXp_wc.out
          go_wp2_with fail
          refine (l_ref R i (some ⟨gp, 0, none⟩) L L wc).mono ?_
          rintro e y21 ⟨rfl, hy⟩
          have kW_y21 := Lib.hid (below_step kW_wc.out kW_wc.out.size hy)
          have ky11_y21 := Lib.hid (below_step ky11_wc.out ky11_wc.out.size hy)
          have kXn_y21 := Lib.hid (below_step kXn_wc.out kXn_wc.out.size hy)
          have kXp_y21 := Lib.hid (below_step kXp_wc.out kXp_wc.out.size hy)
          have kXi_y21 := Lib.hid (below_step kXi_wc.out kXi_wc.out.size hy)
          clear hy bb
          go_wp2_with fail
          refine (kxp2.out y21).mono ?_
          rintro e y22 ⟨sp, cp, rfl, hmP, hy⟩
          have hmPh := Lib.hid hmP
          clear hmP
          have kW_y22 := Lib.hid (below_step kW_y21.out kW_y21.out.size hy)
          have ky11_y22 := Lib.hid (below_step ky11_y21.out ky11_y21.out.size hy)
          have kXn_y22 := Lib.hid (below_step kXn_y21.out kXn_y21.out.size hy)
          have kXp_y22 := Lib.hid (below_step kXp_y21.out kXp_y21.out.size hy)
          have kXi_y22 := Lib.hid (below_step kXi_y21.out kXi_y21.out.size hy)
          clear hy
          go_wp2_with fail
          refine (x_same R i (some ⟨gp, 0, none⟩) sp L cp L (flF i pwF) y22 (hbyl.out _ _ _ (hmp.out _ kXp_y22.out)) (hbyl.out _ _ _ hmPh.out) hL8).mono ?_
          rintro e y23 ⟨rfl, hy⟩
          have kW_y23 := Lib.hid (below_step kW_y22.out kW_y22.out.size hy)
          have ky11_y23 := Lib.hid (below_step ky11_y22.out ky11_y22.out.size hy)
          have kXn_y23 := Lib.hid (below_step kXn_y22.out kXn_y22.out.size hy)
          have kXp_y23 := Lib.hid (below_step kXp_y22.out kXp_y22.out.size hy)
          have kXi_y23 := Lib.hid (below_step kXi_y22.out kXi_y22.out.size hy)
          clear hy
          have hlast := Lib.hid (hfin.out _ kW_y23.out)
          go_wp2_with fail
          go_ret
          exact ⟨rfl, hlast.out⟩
  · have hno : rightB r c len = false ∨ a1 < 0 ∨ r ≤ a1 := by
      rw [hba]
      cases ba with
      | false => exact .inl rfl
      | true => by_cases h1 : a1 < 0
                · exact .inr (.inl h1)
                · exact .inr (.inr (by have : ¬ (0 ≤ a1 ∧ a1 < r) := fun h => hgo ⟨rfl, h⟩; omega))
    have hgoh := Lib.hid hgo
    clear hgo
    go_wp2_with fail
    refine (m_rowcopy_no r c a1 a len cap z3 hno).mono ?_
    rintro e y11 ⟨rfl, hy⟩
    have kW_y11 := Lib.hid (below_step kW_z3.out kW_z3.out.size hy)
    clear hy bm hno
    have bm := hS.out _ kW_y11.out
    go_wp2_with fail
    refine (l_ref r c a len cap y11).mono ?_
    rintro e y12 ⟨rfl, hy⟩
    have kW_y12 := Lib.hid (below_step kW_y11.out kW_y11.out.size hy)
    clear hy bm
    have kx := x_right r c a len cap y12
    rw [hba] at kx
    go_wp2_with fail
    refine (kx).mono ?_
    rintro e y13 ⟨rfl, hy⟩
    have kW_y13 := Lib.hid (below_step kW_y12.out kW_y12.out.size hy)
    clear hy kx
    have bm := hS.out _ kW_y13.out
    have c0 : y13.cell? ⟨w.heap.size, 0, none⟩ = some (.int .i64 r) := (cell_of_block (blk_heap bm)).trans rfl
    have hcond : Hid (ba = false ∨ (ba = true ∧ a1 < 0) ∨ (ba = true ∧ ¬ a1 < 0 ∧ r ≤ a1)) := hide (by
      cases ba with
      | false => exact .inl rfl
      | true => by_cases h1 : a1 < 0
                · exact .inr (.inl ⟨rfl, h1⟩)
                · exact .inr (.inr ⟨rfl, h1, by have : ¬ (0 ≤ a1 ∧ a1 < r) := fun h => hgoh.out ⟨rfl, h⟩; omega⟩))
    rcases hcond.out with h | ⟨h, h1⟩ | ⟨h, h1, h2⟩
    · skip
      subst h
      go_upto_region 12 with (fail)
      clear bm c0 hcond
      by_cases ha0 : a0 < 0
      · skip
        have d0 : decide (a0 < 0) = true := decide_eq_true ha0
        have hbad : a0 < 0 ∨ (a1 : Int) < 0 ∨ 255 < a0 ∨ 255 < (a1 : Int) := .inl ha0
        have hbad0 : a0 < 0 ∨ 255 < a0 := .inl ha0
        have hbadh := Lib.hid hbad
        have hbad0h := Lib.hid hbad0
        clear hbad hbad0
        go_wp2_with fail
        refine (m_new_no a0 a1 y13 hbadh.out).mono ?_
        rintro e y14 ⟨rfl, hy⟩
        have kW_y14 := Lib.hid (below_step kW_y13.out kW_y13.out.size hy)
        clear hy
        go_upto_region 13 with (fail)
        obtain ⟨x0, x1, x2⟩ := boxed y14 #[.int .i64 0, .int .i64 0, .slice none 0 0] #[.int .i64 0, .int .i64 0, .slice none 0 0] 24
        generalize World.setRow (World.alloc y14 _) _ _ = Xn at *
        have hln : y14.heap.size < Xn.heap.size := by omega
        have hvn : Hid (∀ z, Below Xn.heap.size Xn z → blk z y14.heap.size = some (.cells #[.int .i64 0, .int .i64 0, .slice none 0 0] 24 (0, 0))) := hide (fun z hz => (blk_below hz hln).trans (blk_of x0))
        have kXn_Xn : Hid (Below Xn.heap.size Xn Xn) := hide (Below.refl _ _)
        have kW_Xn := Lib.hid (below_step kW_y14.out kW_y14.out.size x2)
        obtain ⟨qn, hq⟩ : ∃ qn, y14.heap.size = qn := ⟨_, rfl⟩
        rw [hq] at hvn hln ⊢
        clear x0 x1 x2 hq
        go_wp2_with fail
        refine (gf_new_below Xn).mono ?_
        rintro e y15 ⟨rfl, hgf, hy⟩
        clear hgf
        have kW_y15 := Lib.hid (below_step kW_Xn.out kW_Xn.out.size hy)
        have kXn_y15 := Lib.hid (below_step kXn_Xn.out kXn_Xn.out.size hy)
        clear hy
        go_wp2_with fail
        refine (m_powers_no _ a0 a1 y15 hbadh.out).mono ?_
        rintro e y16 ⟨rfl, hy⟩
        have kW_y16 := Lib.hid (below_step kW_y15.out kW_y15.out.size hy)
        have kXn_y16 := Lib.hid (below_step kXn_y15.out kXn_y15.out.size hy)
        clear hy
        go_upto_region 14 with (fail)
        obtain ⟨x0, x1, x2⟩ := boxed y16 #[.int .i64 0, .int .i64 0, .slice none 0 0] #[.int .i64 0, .int .i64 0, .slice none 0 0] 24
        generalize World.setRow (World.alloc y16 _) _ _ = Xp at *
        have hlp : y16.heap.size < Xp.heap.size := by omega
        have hvp : Hid (∀ z, Below Xp.heap.size Xp z → blk z y16.heap.size = some (.cells #[.int .i64 0, .int .i64 0, .slice none 0 0] 24 (0, 0))) := hide (fun z hz => (blk_below hz hlp).trans (blk_of x0))
        have kXp_Xp : Hid (Below Xp.heap.size Xp Xp) := hide (Below.refl _ _)
        have kW_Xp := Lib.hid (below_step kW_y16.out kW_y16.out.size x2)
        have kXn_Xp := Lib.hid (below_step kXn_y16.out kXn_y16.out.size x2)
        obtain ⟨qp, hq⟩ : ∃ qp, y16.heap.size = qp := ⟨_, rfl⟩
        rw [hq] at hvp hlp ⊢
        clear x0 x1 x2 hq
        go_wp2_with fail
        refine (m_identity_no a0 Xp hbad0h.out).mono ?_
        rintro e y17 ⟨rfl, hy⟩
        have kW_y17 := Lib.hid (below_step kW_Xp.out kW_Xp.out.size hy)
        have kXn_y17 := Lib.hid (below_step kXn_Xp.out kXn_Xp.out.size hy)
        have kXp_y17 := Lib.hid (below_step kXp_Xp.out kXp_Xp.out.size hy)
        clear hy
        go_upto_region 15 with (fail)
        obtain ⟨x0, x1, x2⟩ := boxed y17 #[.int .i64 0, .int .i64 0, .slice none 0 0] #[.int .i64 0, .int .i64 0, .slice none 0 0] 24
        generalize World.setRow (World.alloc y17 _) _ _ = Xi at *
        have hli : y17.heap.size < Xi.heap.size := by omega
        have hvi : Hid (∀ z, Below Xi.heap.size Xi z → blk z y17.heap.size = some (.cells #[.int .i64 0, .int .i64 0, .slice none 0 0] 24 (0, 0))) := hide (fun z hz => (blk_below hz hli).trans (blk_of x0))
        have kXi_Xi : Hid (Below Xi.heap.size Xi Xi) := hide (Below.refl _ _)
        have kW_Xi := Lib.hid (below_step kW_y17.out kW_y17.out.size x2)
        have kXn_Xi := Lib.hid (below_step kXn_y17.out kXn_y17.out.size x2)
        have kXp_Xi := Lib.hid (below_step kXp_y17.out kXp_y17.out.size x2)
        obtain ⟨qi, hq⟩ : ∃ qi, y17.heap.size = qi := ⟨_, rfl⟩
        rw [hq] at hvi hli ⊢
        clear x0 x1 x2 hq
        have bb := hvn.out _ kXn_Xi.out
        go_wp2_with fail
        refine (l_none Xi).mono ?_
        rintro e y18 ⟨rfl, hy⟩
        have kW_y18 := Lib.hid (below_step kW_Xi.out kW_Xi.out.size hy)
        have kXn_y18 := Lib.hid (below_step kXn_Xi.out kXn_Xi.out.size hy)
        have kXp_y18 := Lib.hid (below_step kXp_Xi.out kXp_Xi.out.size hy)
        have kXi_y18 := Lib.hid (below_step kXi_Xi.out kXi_Xi.out.size hy)
        clear hy bb
        have bb := hvp.out _ kXp_y18.out
        go_wp2_with fail
        refine (l_none y18).mono ?_
        rintro e y19 ⟨rfl, hy⟩
        have kW_y19 := Lib.hid (below_step kW_y18.out kW_y18.out.size hy)
        have kXn_y19 := Lib.hid (below_step kXn_y18.out kXn_y18.out.size hy)
        have kXp_y19 := Lib.hid (below_step kXp_y18.out kXp_y18.out.size hy)
        have kXi_y19 := Lib.hid (below_step kXi_y18.out kXi_y18.out.size hy)
        clear hy bb
        have bb := hvi.out _ kXi_y19.out
        go_wp2_with fail
        refine (l_none y19).mono ?_
        rintro e y20 ⟨rfl, hy⟩
        have kW_y20 := Lib.hid (below_step kW_y19.out kW_y19.out.size hy)
        have kXn_y20 := Lib.hid (below_step kXn_y19.out kXn_y19.out.size hy)
        have kXp_y20 := Lib.hid (below_step kXp_y19.out kXp_y19.out.size hy)
        have kXi_y20 := Lib.hid (below_step kXi_y19.out kXi_y19.out.size hy)
        clear hy bb
        have hlast := Lib.hid (hfin.out _ kW_y20.out)
        go_wp2_with fail
        go_ret
        exact ⟨rfl, hlast.out⟩
      by_cases hb0 : 255 < a0
      · skip
        have d0 : decide (a0 < 0) = false := decide_eq_false (by omega)
        have d1 : decide (255 < a0) = true := decide_eq_true hb0
        have hbad : a0 < 0 ∨ (a1 : Int) < 0 ∨ 255 < a0 ∨ 255 < (a1 : Int) := .inr (.inr (.inl hb0))
        have hbad0 : a0 < 0 ∨ 255 < a0 := .inr hb0
        have hbadh := Lib.hid hbad
        have hbad0h := Lib.hid hbad0
        clear hbad hbad0
        go_wp2_with fail
        refine (m_new_no a0 a1 y13 hbadh.out).mono ?_
        rintro e y14 ⟨rfl, hy⟩
        have kW_y14 := Lib.hid (below_step kW_y13.out kW_y13.out.size hy)
        clear hy
        go_upto_region 13 with (fail)
        obtain ⟨x0, x1, x2⟩ := boxed y14 #[.int .i64 0, .int .i64 0, .slice none 0 0] #[.int .i64 0, .int .i64 0, .slice none 0 0] 24
        generalize World.setRow (World.alloc y14 _) _ _ = Xn at *
        have hln : y14.heap.size < Xn.heap.size := by omega
        have hvn : Hid (∀ z, Below Xn.heap.size Xn z → blk z y14.heap.size = some (.cells #[.int .i64 0, .int .i64 0, .slice none 0 0] 24 (0, 0))) := hide (fun z hz => (blk_below hz hln).trans (blk_of x0))
        have kXn_Xn : Hid (Below Xn.heap.size Xn Xn) := hide (Below.refl _ _)
        have kW_Xn := Lib.hid (below_step kW_y14.out kW_y14.out.size x2)
        obtain ⟨qn, hq⟩ : ∃ qn, y14.heap.size = qn := ⟨_, rfl⟩
        rw [hq] at hvn hln ⊢
        clear x0 x1 x2 hq
        go_wp2_with fail
        refine (gf_new_below Xn).mono ?_
        rintro e y15 ⟨rfl, hgf, hy⟩
        clear hgf
        have kW_y15 := Lib.hid (below_step kW_Xn.out kW_Xn.out.size hy)
        have kXn_y15 := Lib.hid (below_step kXn_Xn.out kXn_Xn.out.size hy)
        clear hy
        go_wp2_with fail
        refine (m_powers_no _ a0 a1 y15 hbadh.out).mono ?_
        rintro e y16 ⟨rfl, hy⟩
        have kW_y16 := Lib.hid (below_step kW_y15.out kW_y15.out.size hy)
        have kXn_y16 := Lib.hid (below_step kXn_y15.out kXn_y15.out.size hy)
        clear hy
        go_upto_region 14 with (fail)
        obtain ⟨x0, x1, x2⟩ := boxed y16 #[.int .i64 0, .int .i64 0, .slice none 0 0] #[.int .i64 0, .int .i64 0, .slice none 0 0] 24
        generalize World.setRow (World.alloc y16 _) _ _ = Xp at *
        have hlp : y16.heap.size < Xp.heap.size := by omega
        have hvp : Hid (∀ z, Below Xp.heap.size Xp z → blk z y16.heap.size = some (.cells #[.int .i64 0, .int .i64 0, .slice none 0 0] 24 (0, 0))) := hide (fun z hz => (blk_below hz hlp).trans (blk_of x0))
        have kXp_Xp : Hid (Below Xp.heap.size Xp Xp) := hide (Below.refl _ _)
        have kW_Xp := Lib.hid (below_step kW_y16.out kW_y16.out.size x2)
        have kXn_Xp := Lib.hid (below_step kXn_y16.out kXn_y16.out.size x2)
        obtain ⟨qp, hq⟩ : ∃ qp, y16.heap.size = qp := ⟨_, rfl⟩
        rw [hq] at hvp hlp ⊢
        clear x0 x1 x2 hq
        go_wp2_with fail
        refine (m_identity_no a0 Xp hbad0h.out).mono ?_
        rintro e y17 ⟨rfl, hy⟩
        have kW_y17 := Lib.hid (below_step kW_Xp.out kW_Xp.out.size hy)
        have kXn_y17 := Lib.hid (below_step kXn_Xp.out kXn_Xp.out.size hy)
        have kXp_y17 := Lib.hid (below_step kXp_Xp.out kXp_Xp.out.size hy)
        clear hy
        go_upto_region 15 with (fail)
        obtain ⟨x0, x1, x2⟩ := boxed y17 #[.int .i64 0, .int .i64 0, .slice none 0 0] #[.int .i64 0, .int .i64 0, .slice none 0 0] 24
        generalize World.setRow (World.alloc y17 _) _ _ = Xi at *
        have hli : y17.heap.size < Xi.heap.size := by omega
        have hvi : Hid (∀ z, Below Xi.heap.size Xi z → blk z y17.heap.size = some (.cells #[.int .i64 0, .int .i64 0, .slice none 0 0] 24 (0, 0))) := hide (fun z hz => (blk_below hz hli).trans (blk_of x0))
        have kXi_Xi : Hid (Below Xi.heap.size Xi Xi) := hide (Below.refl _ _)
        have kW_Xi := Lib.hid (below_step kW_y17.out kW_y17.out.size x2)
        have kXn_Xi := Lib.hid (below_step kXn_y17.out kXn_y17.out.size x2)
        have kXp_Xi := Lib.hid (below_step kXp_y17.out kXp_y17.out.size x2)
        obtain ⟨qi, hq⟩ : ∃ qi, y17.heap.size = qi := ⟨_, rfl⟩
        rw [hq] at hvi hli ⊢
        clear x0 x1 x2 hq
        have bb := hvn.out _ kXn_Xi.out
        go_wp2_with fail
        refine (l_none Xi).mono ?_
        rintro e y18 ⟨rfl, hy⟩
        have kW_y18 := Lib.hid (below_step kW_Xi.out kW_Xi.out.size hy)
        have kXn_y18 := Lib.hid (below_step kXn_Xi.out kXn_Xi.out.size hy)
        have kXp_y18 := Lib.hid (below_step kXp_Xi.out kXp_Xi.out.size hy)
        have kXi_y18 := Lib.hid (below_step kXi_Xi.out kXi_Xi.out.size hy)
        clear hy bb
        have bb := hvp.out _ kXp_y18.out
        go_wp2_with fail
        refine (l_none y18).mono ?_
        rintro e y19 ⟨rfl, hy⟩
        have kW_y19 := Lib.hid (below_step kW_y18.out kW_y18.out.size hy)
        have kXn_y19 := Lib.hid (below_step kXn_y18.out kXn_y18.out.size hy)
        have kXp_y19 := Lib.hid (below_step kXp_y18.out kXp_y18.out.size hy)
        have kXi_y19 := Lib.hid (below_step kXi_y18.out kXi_y18.out.size hy)
        clear hy bb
        have bb := hvi.out _ kXi_y19.out
        go_wp2_with fail
        refine (l_none y19).mono ?_
        rintro e y20 ⟨rfl, hy⟩
        have kW_y20 := Lib.hid (below_step kW_y19.out kW_y19.out.size hy)
        have kXn_y20 := Lib.hid (below_step kXn_y19.out kXn_y19.out.size hy)
        have kXp_y20 := Lib.hid (below_step kXp_y19.out kXp_y19.out.size hy)
        have kXi_y20 := Lib.hid (below_step kXi_y19.out kXi_y19.out.size hy)
        clear hy bb
        have hlast := Lib.hid (hfin.out _ kW_y20.out)
        go_wp2_with fail
        go_ret
        exact ⟨rfl, hlast.out⟩
      obtain ⟨R, hRe⟩ : ∃ R : Nat, a0 = R := ⟨a0.toNat, by omega⟩
      subst hRe
      have hR : R ≤ 255 := by omega
      clear ha0 hb0
      by_cases ha1 : a1 < 0
      · skip
        have e0 : decide (a1 < 0) = true := decide_eq_true ha1
        have hbad : (R : Int) < 0 ∨ a1 < 0 ∨ 255 < (R : Int) ∨ 255 < a1 := .inr (.inl ha1)
        have hbadh := Lib.hid hbad
        clear hbad
        go_wp2_with fail
        refine (m_new_no R a1 y13 hbadh.out).mono ?_
        rintro e y14 ⟨rfl, hy⟩
        have kW_y14 := Lib.hid (below_step kW_y13.out kW_y13.out.size hy)
        clear hy
        go_upto_region 13 with (fail)
        obtain ⟨x0, x1, x2⟩ := boxed y14 #[.int .i64 0, .int .i64 0, .slice none 0 0] #[.int .i64 0, .int .i64 0, .slice none 0 0] 24
        generalize World.setRow (World.alloc y14 _) _ _ = Xn at *
        have hln : y14.heap.size < Xn.heap.size := by omega
        have hvn : Hid (∀ z, Below Xn.heap.size Xn z → blk z y14.heap.size = some (.cells #[.int .i64 0, .int .i64 0, .slice none 0 0] 24 (0, 0))) := hide (fun z hz => (blk_below hz hln).trans (blk_of x0))
        have kXn_Xn : Hid (Below Xn.heap.size Xn Xn) := hide (Below.refl _ _)
        have kW_Xn := Lib.hid (below_step kW_y14.out kW_y14.out.size x2)
        obtain ⟨qn, hq⟩ : ∃ qn, y14.heap.size = qn := ⟨_, rfl⟩
        rw [hq] at hvn hln ⊢
        clear x0 x1 x2 hq
        go_wp2_with fail
        refine (gf_new_below Xn).mono ?_
        rintro e y15 ⟨rfl, hgf, hy⟩
        clear hgf
        have kW_y15 := Lib.hid (below_step kW_Xn.out kW_Xn.out.size hy)
        have kXn_y15 := Lib.hid (below_step kXn_Xn.out kXn_Xn.out.size hy)
        clear hy
        go_wp2_with fail
        refine (m_powers_no _ R a1 y15 hbadh.out).mono ?_
        rintro e y16 ⟨rfl, hy⟩
        have kW_y16 := Lib.hid (below_step kW_y15.out kW_y15.out.size hy)
        have kXn_y16 := Lib.hid (below_step kXn_y15.out kXn_y15.out.size hy)
        clear hy
        go_upto_region 14 with (fail)
        obtain ⟨x0, x1, x2⟩ := boxed y16 #[.int .i64 0, .int .i64 0, .slice none 0 0] #[.int .i64 0, .int .i64 0, .slice none 0 0] 24
        generalize World.setRow (World.alloc y16 _) _ _ = Xp at *
        have hlp : y16.heap.size < Xp.heap.size := by omega
        have hvp : Hid (∀ z, Below Xp.heap.size Xp z → blk z y16.heap.size = some (.cells #[.int .i64 0, .int .i64 0, .slice none 0 0] 24 (0, 0))) := hide (fun z hz => (blk_below hz hlp).trans (blk_of x0))
        have kXp_Xp : Hid (Below Xp.heap.size Xp Xp) := hide (Below.refl _ _)
        have kW_Xp := Lib.hid (below_step kW_y16.out kW_y16.out.size x2)
        have kXn_Xp := Lib.hid (below_step kXn_y16.out kXn_y16.out.size x2)
        obtain ⟨qp, hq⟩ : ∃ qp, y16.heap.size = qp := ⟨_, rfl⟩
        rw [hq] at hvp hlp ⊢
        clear x0 x1 x2 hq
        go_wp2_with fail
        refine (m_identity R Xp hR).mono ?_
        rintro e y17 ⟨gi, rfl, hgi, hmi0, hy⟩
        have hmi1 := Lib.hid hmi0.mat
        have hmi2 := Lib.hid (fun z (hz : Below y17.heap.size y17 z) => hmi1.out.below hz)
        clear hmi0 hgi hmi1
        have kW_y17 := Lib.hid (below_step kW_Xp.out kW_Xp.out.size hy)
        have kXn_y17 := Lib.hid (below_step kXn_Xp.out kXn_Xp.out.size hy)
        have kXp_y17 := Lib.hid (below_step kXp_Xp.out kXp_Xp.out.size hy)
        clear hy
        have hmk0 : Hid (∀ b (D : Array Value), MAt ((World.alloc y17 b).setRow y17.heap.size D) (some ⟨gi, 0, none⟩) R R idF) := hide (fun b D => hmi2.out _ (below_setRow ((Below.refl _ _).alloc (Nat.le_refl _) _) (Nat.le_refl _) _))
        clear hmi2
        go_upto_region 15 with (fail)
        obtain ⟨x0, x1, x2⟩ := boxed y17 #[.int .i64 0, .int .i64 0, .slice none 0 0] #[.int .i64 (R : Nat), .int .i64 (R : Nat), .slice (some ⟨gi, 0, none⟩) (R * R) (R * R)] 24
        have hmx := Lib.hid (hmk0.out (.cells #[.int .i64 0, .int .i64 0, .slice none 0 0] 24) #[.int .i64 (R : Nat), .int .i64 (R : Nat), .slice (some ⟨gi, 0, none⟩) (R * R) (R * R)])
        generalize World.setRow (World.alloc y17 _) _ _ = Xi at *
        have hmi : Hid (∀ z, Below Xi.heap.size Xi z → MAt z (some ⟨gi, 0, none⟩) R R idF) := hide (fun z hz => hmx.out.below hz)
        have hli : y17.heap.size < Xi.heap.size := by omega
        have hvi : Hid (∀ z, Below Xi.heap.size Xi z → blk z y17.heap.size = some (.cells #[.int .i64 (R : Nat), .int .i64 (R : Nat), .slice (some ⟨gi, 0, none⟩) (R * R) (R * R)] 24 (0, 0))) := hide (fun z hz => (blk_below hz hli).trans (blk_of x0))
        have kXi_Xi : Hid (Below Xi.heap.size Xi Xi) := hide (Below.refl _ _)
        have kW_Xi := Lib.hid (below_step kW_y17.out kW_y17.out.size x2)
        have kXn_Xi := Lib.hid (below_step kXn_y17.out kXn_y17.out.size x2)
        have kXp_Xi := Lib.hid (below_step kXp_y17.out kXp_y17.out.size x2)
        obtain ⟨qi, hq⟩ : ∃ qi, y17.heap.size = qi := ⟨_, rfl⟩
        rw [hq] at hvi hli ⊢
        clear x0 x1 x2 hq hmx hmk0
        have bb := hvi.out _ kXi_Xi.out
        go_wp2_with fail
        refine (l_ref R R (some ⟨gi, 0, none⟩) (R * R) (R * R) Xi).mono ?_
        rintro e y18 ⟨rfl, hy⟩
        have kW_y18 := Lib.hid (below_step kW_Xi.out kW_Xi.out.size hy)
        have kXn_y18 := Lib.hid (below_step kXn_Xi.out kXn_Xi.out.size hy)
        have kXp_y18 := Lib.hid (below_step kXp_Xi.out kXp_Xi.out.size hy)
        have kXi_y18 := Lib.hid (below_step kXi_Xi.out kXi_Xi.out.size hy)
        clear hy bb
        skip
        go_wp2_with fail
        refine (x_identity R y18 hR).mono ?_
        rintro e y19 ⟨si, ci, rfl, hmJ, _, _, hy⟩
        have hmJh := Lib.hid hmJ
        clear hmJ
        have kW_y19 := Lib.hid (below_step kW_y18.out kW_y18.out.size hy)
        have kXn_y19 := Lib.hid (below_step kXn_y18.out kXn_y18.out.size hy)
        have kXp_y19 := Lib.hid (below_step kXp_y18.out kXp_y18.out.size hy)
        have kXi_y19 := Lib.hid (below_step kXi_y18.out kXi_y18.out.size hy)
        clear hy
        go_wp2_with fail
        refine (x_same R R (some ⟨gi, 0, none⟩) si (R * R) ci (R * R) (flF R idF) y19 (hmi.out _ kXi_y19.out).by hmJh.out.by (Nat.le_trans (rc_le hR hR) (by decide))).mono ?_
        rintro e y20 ⟨rfl, hy⟩
        have kW_y20 := Lib.hid (below_step kW_y19.out kW_y19.out.size hy)
        have kXn_y20 := Lib.hid (below_step kXn_y19.out kXn_y19.out.size hy)
        have kXp_y20 := Lib.hid (below_step kXp_y19.out kXp_y19.out.size hy)
        have kXi_y20 := Lib.hid (below_step kXi_y19.out kXi_y19.out.size hy)
        clear hy
        have bb := hvn.out _ kXn_y20.out
        go_wp2_with fail
        refine (l_none y20).mono ?_
        rintro e y21 ⟨rfl, hy⟩
        have kW_y21 := Lib.hid (below_step kW_y20.out kW_y20.out.size hy)
        have kXn_y21 := Lib.hid (below_step kXn_y20.out kXn_y20.out.size hy)
        have kXp_y21 := Lib.hid (below_step kXp_y20.out kXp_y20.out.size hy)
        have kXi_y21 := Lib.hid (below_step kXi_y20.out kXi_y20.out.size hy)
        clear hy bb
        have bb := hvp.out _ kXp_y21.out
        go_wp2_with fail
        refine (l_none y21).mono ?_
        rintro e y22 ⟨rfl, hy⟩
        have kW_y22 := Lib.hid (below_step kW_y21.out kW_y21.out.size hy)
        have kXn_y22 := Lib.hid (below_step kXn_y21.out kXn_y21.out.size hy)
        have kXp_y22 := Lib.hid (below_step kXp_y21.out kXp_y21.out.size hy)
        have kXi_y22 := Lib.hid (below_step kXi_y21.out kXi_y21.out.size hy)
        clear hy bb
        have hlast := Lib.hid (hfin.out _ kW_y22.out)
        go_wp2_with fail
        go_ret
        exact ⟨rfl, hlast.out⟩
      by_cases hb1 : 255 < a1
      · skip
        have e0 : decide (a1 < 0) = false := decide_eq_false (by omega)
        have e1 : decide (255 < a1) = true := decide_eq_true hb1
        have hbad : (R : Int) < 0 ∨ a1 < 0 ∨ 255 < (R : Int) ∨ 255 < a1 := .inr (.inr (.inr hb1))
        have hbadh := Lib.hid hbad
        clear hbad
        go_wp2_with fail
        refine (m_new_no R a1 y13 hbadh.out).mono ?_
        rintro e y14 ⟨rfl, hy⟩
        have kW_y14 := Lib.hid (below_step kW_y13.out kW_y13.out.size hy)
        clear hy
        go_upto_region 13 with (fail)
        obtain ⟨x0, x1, x2⟩ := boxed y14 #[.int .i64 0, .int .i64 0, .slice none 0 0] #[.int .i64 0, .int .i64 0, .slice none 0 0] 24
        generalize World.setRow (World.alloc y14 _) _ _ = Xn at *
        have hln : y14.heap.size < Xn.heap.size := by omega
        have hvn : Hid (∀ z, Below Xn.heap.size Xn z → blk z y14.heap.size = some (.cells #[.int .i64 0, .int .i64 0, .slice none 0 0] 24 (0, 0))) := hide (fun z hz => (blk_below hz hln).trans (blk_of x0))
        have kXn_Xn : Hid (Below Xn.heap.size Xn Xn) := hide (Below.refl _ _)
        have kW_Xn := Lib.hid (below_step kW_y14.out kW_y14.out.size x2)
        obtain ⟨qn, hq⟩ : ∃ qn, y14.heap.size = qn := ⟨_, rfl⟩
        rw [hq] at hvn hln ⊢
        clear x0 x1 x2 hq
        go_wp2_with fail
        refine (gf_new_below Xn).mono ?_
        rintro e y15 ⟨rfl, hgf, hy⟩
        clear hgf
        have kW_y15 := Lib.hid (below_step kW_Xn.out kW_Xn.out.size hy)
        have kXn_y15 := Lib.hid (below_step kXn_Xn.out kXn_Xn.out.size hy)
        clear hy
        go_wp2_with fail
        refine (m_powers_no _ R a1 y15 hbadh.out).mono ?_
        rintro e y16 ⟨rfl, hy⟩
        have kW_y16 := Lib.hid (below_step kW_y15.out kW_y15.out.size hy)
        have kXn_y16 := Lib.hid (below_step kXn_y15.out kXn_y15.out.size hy)
        clear hy
        go_upto_region 14 with (fail)
        obtain ⟨x0, x1, x2⟩ := boxed y16 #[.int .i64 0, .int .i64 0, .slice none 0 0] #[.int .i64 0, .int .i64 0, .slice none 0 0] 24
        generalize World.setRow (World.alloc y16 _) _ _ = Xp at *
        have hlp : y16.heap.size < Xp.heap.size := by omega
        have hvp : Hid (∀ z, Below Xp.heap.size Xp z → blk z y16.heap.size = some (.cells #[.int .i64 0, .int .i64 0, .slice none 0 0] 24 (0, 0))) := hide (fun z hz => (blk_below hz hlp).trans (blk_of x0))
        have kXp_Xp : Hid (Below Xp.heap.size Xp Xp) := hide (Below.refl _ _)
        have kW_Xp := Lib.hid (below_step kW_y16.out kW_y16.out.size x2)
        have kXn_Xp := Lib.hid (below_step kXn_y16.out kXn_y16.out.size x2)
        obtain ⟨qp, hq⟩ : ∃ qp, y16.heap.size = qp := ⟨_, rfl⟩
        rw [hq] at hvp hlp ⊢
        clear x0 x1 x2 hq
        go_wp2_with fail
        refine (m_identity R Xp hR).mono ?_
        rintro e y17 ⟨gi, rfl, hgi, hmi0, hy⟩
        have hmi1 := Lib.hid hmi0.mat
        have hmi2 := Lib.hid (fun z (hz : Below y17.heap.size y17 z) => hmi1.out.below hz)
        clear hmi0 hgi hmi1
        have kW_y17 := Lib.hid (below_step kW_Xp.out kW_Xp.out.size hy)
        have kXn_y17 := Lib.hid (below_step kXn_Xp.out kXn_Xp.out.size hy)
        have kXp_y17 := Lib.hid (below_step kXp_Xp.out kXp_Xp.out.size hy)
        clear hy
        have hmk0 : Hid (∀ b (D : Array Value), MAt ((World.alloc y17 b).setRow y17.heap.size D) (some ⟨gi, 0, none⟩) R R idF) := hide (fun b D => hmi2.out _ (below_setRow ((Below.refl _ _).alloc (Nat.le_refl _) _) (Nat.le_refl _) _))
        clear hmi2
        go_upto_region 15 with (fail)
        obtain ⟨x0, x1, x2⟩ := boxed y17 #[.int .i64 0, .int .i64 0, .slice none 0 0] #[.int .i64 (R : Nat), .int .i64 (R : Nat), .slice (some ⟨gi, 0, none⟩) (R * R) (R * R)] 24
        have hmx := Lib.hid (hmk0.out (.cells #[.int .i64 0, .int .i64 0, .slice none 0 0] 24) #[.int .i64 (R : Nat), .int .i64 (R : Nat), .slice (some ⟨gi, 0, none⟩) (R * R) (R * R)])
        generalize World.setRow (World.alloc y17 _) _ _ = Xi at *
        have hmi : Hid (∀ z, Below Xi.heap.size Xi z → MAt z (some ⟨gi, 0, none⟩) R R idF) := hide (fun z hz => hmx.out.below hz)
        have hli : y17.heap.size < Xi.heap.size := by omega
        have hvi : Hid (∀ z, Below Xi.heap.size Xi z → blk z y17.heap.size = some (.cells #[.int .i64 (R : Nat), .int .i64 (R : Nat), .slice (some ⟨gi, 0, none⟩) (R * R) (R * R)] 24 (0, 0))) := hide (fun z hz => (blk_below hz hli).trans (blk_of x0))
        have kXi_Xi : Hid (Below Xi.heap.size Xi Xi) := hide (Below.refl _ _)
        have kW_Xi := Lib.hid (below_step kW_y17.out kW_y17.out.size x2)
        have kXn_Xi := Lib.hid (below_step kXn_y17.out kXn_y17.out.size x2)
        have kXp_Xi := Lib.hid (below_step kXp_y17.out kXp_y17.out.size x2)
        obtain ⟨qi, hq⟩ : ∃ qi, y17.heap.size = qi := ⟨_, rfl⟩
        rw [hq] at hvi hli ⊢
        clear x0 x1 x2 hq hmx hmk0
        have bb := hvi.out _ kXi_Xi.out
        go_wp2_with fail
        refine (l_ref R R (some ⟨gi, 0, none⟩) (R * R) (R * R) Xi).mono ?_
        rintro e y18 ⟨rfl, hy⟩
        have kW_y18 := Lib.hid (below_step kW_Xi.out kW_Xi.out.size hy)
        have kXn_y18 := Lib.hid (below_step kXn_Xi.out kXn_Xi.out.size hy)
        have kXp_y18 := Lib.hid (below_step kXp_Xi.out kXp_Xi.out.size hy)
        have kXi_y18 := Lib.hid (below_step kXi_Xi.out kXi_Xi.out.size hy)
        clear hy bb
        skip
        go_wp2_with fail
        refine (x_identity R y18 hR).mono ?_
        rintro e y19 ⟨si, ci, rfl, hmJ, _, _, hy⟩
        have hmJh := Lib.hid hmJ
        clear hmJ
        have kW_y19 := Lib.hid (below_step kW_y18.out kW_y18.out.size hy)
        have kXn_y19 := Lib.hid (below_step kXn_y18.out kXn_y18.out.size hy)
        have kXp_y19 := Lib.hid (below_step kXp_y18.out kXp_y18.out.size hy)
        have kXi_y19 := Lib.hid (below_step kXi_y18.out kXi_y18.out.size hy)
        clear hy
        go_wp2_with fail
        refine (x_same R R (some ⟨gi, 0, none⟩) si (R * R) ci (R * R) (flF R idF) y19 (hmi.out _ kXi_y19.out).by hmJh.out.by (Nat.le_trans (rc_le hR hR) (by decide))).mono ?_
        rintro e y20 ⟨rfl, hy⟩
        have kW_y20 := Lib.hid (below_step kW_y19.out kW_y19.out.size hy)
        have kXn_y20 := Lib.hid (below_step kXn_y19.out kXn_y19.out.size hy)
        have kXp_y20 := Lib.hid (below_step kXp_y19.out kXp_y19.out.size hy)
        have kXi_y20 := Lib.hid (below_step kXi_y19.out kXi_y19.out.size hy)
        clear hy
        have bb := hvn.out _ kXn_y20.out
        go_wp2_with fail
        refine (l_none y20).mono ?_
        rintro e y21 ⟨rfl, hy⟩
        have kW_y21 := Lib.hid (below_step kW_y20.out kW_y20.out.size hy)
        have kXn_y21 := Lib.hid (below_step kXn_y20.out kXn_y20.out.size hy)
        have kXp_y21 := Lib.hid (below_step kXp_y20.out kXp_y20.out.size hy)
        have kXi_y21 := Lib.hid (below_step kXi_y20.out kXi_y20.out.size hy)
        clear hy bb
        have bb := hvp.out _ kXp_y21.out
        go_wp2_with fail
        refine (l_none y21).mono ?_
        rintro e y22 ⟨rfl, hy⟩
        have kW_y22 := Lib.hid (below_step kW_y21.out kW_y21.out.size hy)
        have kXn_y22 := Lib.hid (below_step kXn_y21.out kXn_y21.out.size hy)
        have kXp_y22 := Lib.hid (below_step kXp_y21.out kXp_y21.out.size hy)
        have kXi_y22 := Lib.hid (below_step kXi_y21.out kXi_y21.out.size hy)
        clear hy bb
        have hlast := Lib.hid (hfin.out _ kW_y22.out)
        go_wp2_with fail
        go_ret
        exact ⟨rfl, hlast.out⟩
      obtain ⟨C, hCe⟩ : ∃ C : Nat, a1 = C := ⟨a1.toNat, by omega⟩
      subst hCe
      have hC : C ≤ 255 := by omega
      clear ha1 hb1
      have hrc := rc_le hR hC
      have hn1 : ((R : Int) * (C : Int)) = ((R * C : Nat) : Int) := by simp
      have e3 : IntKind.i64.wrap ((R : Int) * (C : Int)) = ((R * C : Nat) : Int) := by rw [hn1]; exact IntWalk.i64_in _ (by omega)
      have hmk : ∀ x : World, (Instr.makeSlice 22 (.int .i64 ((R * C : Nat) : Int)) (.int .i64 ((R * C : Nat) : Int))).run Try.prog x = .ok (.slice (some ⟨x.heap.size, 0, none⟩) (R * C) (R * C)) (x.alloc (.cells (madeCells #[.int .u8 0] (R * C)) 5)) := fun x => make_row (P := Try.prog) Try.underlying22 info8 (R * C) (by omega) (by decide) x
      have hmrow : Hid (∀ x : World, MAt (x.alloc (.cells (madeCells #[.int .u8 0] (R * C)) 5)) (some ⟨x.heap.size, 0, none⟩) R C (fun _ _ => 0)) := hide (fun x => (MRow.of (brow_made x (R * C)) (fun _ _ _ _ => rfl)).mat)
      have kxp := Lib.hid (fun y => x_powers R C y hR hC)
      have hbyl := Lib.hid (fun (y : World) (s : Option Addr) (G : Nat → Nat → Nat) (h : MAt y s R C G) => h.by)
      have kxp2 : Hid (∀ y, Calls Try.prog 27 #[.int .i64 (R : Nat), .int .i64 (C : Nat)] y (fun e w' => ∃ s cap, e = .returned (.agg #[.int .i64 (R : Nat), .int .i64 (C : Nat), .slice s (R * C) cap]) ∧ MAt w' s R C pwF ∧ Below y.heap.size y w')) := hide (fun y => (x_powers R C y hR hC).mono (fun e w' ⟨s, cap, h1, h2, _, _, h3⟩ => ⟨s, cap, h1, h2, h3⟩))
      obtain ⟨L, hLe⟩ : ∃ L, R * C = L := ⟨_, rfl⟩
      have hL := Lib.hid hLe
      rw [hLe] at e3 hmk hmrow hrc hbyl kxp2
      have e3h := Lib.hid e3
      have hmkh := Lib.hid hmk
      have hL8 := Nat.le_trans hrc (show 65025 ≤ 100000000 by decide)
      clear hLe hn1 e3 hmk kxp
      go_wp2_with fail
      refine (m_new R C y13 hR hC).mono ?_
      rintro e y14 ⟨gn, rfl, hgi, hmi0, hy⟩
      have hmi1 := Lib.hid hmi0.mat
      have hmi2 := Lib.hid (fun z (hz : Below y14.heap.size y14 z) => hmi1.out.below hz)
      clear hmi0 hgi hmi1
      have kW_y14 := Lib.hid (below_step kW_y13.out kW_y13.out.size hy)
      clear hy
      have hmk0 : Hid (∀ b (D : Array Value), MAt ((World.alloc y14 b).setRow y14.heap.size D) (some ⟨gn, 0, none⟩) R C (fun _ _ => 0)) := hide (fun b D => hmi2.out _ (below_setRow ((Below.refl _ _).alloc (Nat.le_refl _) _) (Nat.le_refl _) _))
      clear hmi2
      rw [hL.out]
      go_upto_region 13 with (fail)
      obtain ⟨x0, x1, x2⟩ := boxed y14 #[.int .i64 0, .int .i64 0, .slice none 0 0] #[.int .i64 (R : Nat), .int .i64 (C : Nat), .slice (some ⟨gn, 0, none⟩) (L) (L)] 24
      have hmx := Lib.hid (hmk0.out (.cells #[.int .i64 0, .int .i64 0, .slice none 0 0] 24) #[.int .i64 (R : Nat), .int .i64 (C : Nat), .slice (some ⟨gn, 0, none⟩) (L) (L)])
      generalize World.setRow (World.alloc y14 _) _ _ = Xn at *
      have hmn : Hid (∀ z, Below Xn.heap.size Xn z → MAt z (some ⟨gn, 0, none⟩) R C (fun _ _ => 0)) := hide (fun z hz => hmx.out.below hz)
      have hln : y14.heap.size < Xn.heap.size := by omega
      have hvn : Hid (∀ z, Below Xn.heap.size Xn z → blk z y14.heap.size = some (.cells #[.int .i64 (R : Nat), .int .i64 (C : Nat), .slice (some ⟨gn, 0, none⟩) (L) (L)] 24 (0, 0))) := hide (fun z hz => (blk_below hz hln).trans (blk_of x0))
      have kXn_Xn : Hid (Below Xn.heap.size Xn Xn) := hide (Below.refl _ _)
      have kW_Xn := Lib.hid (below_step kW_y14.out kW_y14.out.size x2)
      obtain ⟨qn, hq⟩ : ∃ qn, y14.heap.size = qn := ⟨_, rfl⟩
      rw [hq] at hvn hln ⊢
      clear x0 x1 x2 hq hmx hmk0
      go_wp2_with fail
      refine (gf_new_below Xn).mono ?_
      rintro e y15 ⟨rfl, hgf, hy⟩
      have hgfh := Lib.hid hgf
      clear hgf
      have kW_y15 := Lib.hid (below_step kW_Xn.out kW_Xn.out.size hy)
      have kXn_y15 := Lib.hid (below_step kXn_Xn.out kXn_Xn.out.size hy)
      clear hy
      go_wp2_with fail
      refine (m_powers _ R C y15 hgfh.out hR hC).mono ?_
      rintro e y16 ⟨gp, rfl, hgi, hmi0, hy⟩
      have hmi1 := Lib.hid hmi0.mat
      have hmi2 := Lib.hid (fun z (hz : Below y16.heap.size y16 z) => hmi1.out.below hz)
      clear hmi0 hgi hmi1
      have kW_y16 := Lib.hid (below_step kW_y15.out kW_y15.out.size hy)
      have kXn_y16 := Lib.hid (below_step kXn_y15.out kXn_y15.out.size hy)
      clear hy
      have hmk0 : Hid (∀ b (D : Array Value), MAt ((World.alloc y16 b).setRow y16.heap.size D) (some ⟨gp, 0, none⟩) R C pwF) := hide (fun b D => hmi2.out _ (below_setRow ((Below.refl _ _).alloc (Nat.le_refl _) _) (Nat.le_refl _) _))
      clear hmi2
      rw [hL.out]
      go_upto_region 14 with (fail)
      obtain ⟨x0, x1, x2⟩ := boxed y16 #[.int .i64 0, .int .i64 0, .slice none 0 0] #[.int .i64 (R : Nat), .int .i64 (C : Nat), .slice (some ⟨gp, 0, none⟩) (L) (L)] 24
      have hmx := Lib.hid (hmk0.out (.cells #[.int .i64 0, .int .i64 0, .slice none 0 0] 24) #[.int .i64 (R : Nat), .int .i64 (C : Nat), .slice (some ⟨gp, 0, none⟩) (L) (L)])
      generalize World.setRow (World.alloc y16 _) _ _ = Xp at *
      have hmp : Hid (∀ z, Below Xp.heap.size Xp z → MAt z (some ⟨gp, 0, none⟩) R C pwF) := hide (fun z hz => hmx.out.below hz)
      have hlp : y16.heap.size < Xp.heap.size := by omega
      have hvp : Hid (∀ z, Below Xp.heap.size Xp z → blk z y16.heap.size = some (.cells #[.int .i64 (R : Nat), .int .i64 (C : Nat), .slice (some ⟨gp, 0, none⟩) (L) (L)] 24 (0, 0))) := hide (fun z hz => (blk_below hz hlp).trans (blk_of x0))
      have kXp_Xp : Hid (Below Xp.heap.size Xp Xp) := hide (Below.refl _ _)
      have kW_Xp := Lib.hid (below_step kW_y16.out kW_y16.out.size x2)
      have kXn_Xp := Lib.hid (below_step kXn_y16.out kXn_y16.out.size x2)
      obtain ⟨qp, hq⟩ : ∃ qp, y16.heap.size = qp := ⟨_, rfl⟩
      rw [hq] at hvp hlp ⊢
      clear x0 x1 x2 hq hmx hmk0
      go_wp2_with fail
      refine (m_identity R Xp hR).mono ?_
      rintro e y17 ⟨gi, rfl, hgi, hmi0, hy⟩
      have hmi1 := Lib.hid hmi0.mat
      have hmi2 := Lib.hid (fun z (hz : Below y17.heap.size y17 z) => hmi1.out.below hz)
      clear hmi0 hgi hmi1
      have kW_y17 := Lib.hid (below_step kW_Xp.out kW_Xp.out.size hy)
      have kXn_y17 := Lib.hid (below_step kXn_Xp.out kXn_Xp.out.size hy)
      have kXp_y17 := Lib.hid (below_step kXp_Xp.out kXp_Xp.out.size hy)
      clear hy
      have hmk0 : Hid (∀ b (D : Array Value), MAt ((World.alloc y17 b).setRow y17.heap.size D) (some ⟨gi, 0, none⟩) R R idF) := hide (fun b D => hmi2.out _ (below_setRow ((Below.refl _ _).alloc (Nat.le_refl _) _) (Nat.le_refl _) _))
      clear hmi2
      go_upto_region 15 with (fail)
      obtain ⟨x0, x1, x2⟩ := boxed y17 #[.int .i64 0, .int .i64 0, .slice none 0 0] #[.int .i64 (R : Nat), .int .i64 (R : Nat), .slice (some ⟨gi, 0, none⟩) (R * R) (R * R)] 24
      have hmx := Lib.hid (hmk0.out (.cells #[.int .i64 0, .int .i64 0, .slice none 0 0] 24) #[.int .i64 (R : Nat), .int .i64 (R : Nat), .slice (some ⟨gi, 0, none⟩) (R * R) (R * R)])
      generalize World.setRow (World.alloc y17 _) _ _ = Xi at *
      have hmi : Hid (∀ z, Below Xi.heap.size Xi z → MAt z (some ⟨gi, 0, none⟩) R R idF) := hide (fun z hz => hmx.out.below hz)
      have hli : y17.heap.size < Xi.heap.size := by omega
      have hvi : Hid (∀ z, Below Xi.heap.size Xi z → blk z y17.heap.size = some (.cells #[.int .i64 (R : Nat), .int .i64 (R : Nat), .slice (some ⟨gi, 0, none⟩) (R * R) (R * R)] 24 (0, 0))) := hide (fun z hz => (blk_below hz hli).trans (blk_of x0))
      have kXi_Xi : Hid (Below Xi.heap.size Xi Xi) := hide (Below.refl _ _)
      have kW_Xi := Lib.hid (below_step kW_y17.out kW_y17.out.size x2)
      have kXn_Xi := Lib.hid (below_step kXn_y17.out kXn_y17.out.size x2)
      have kXp_Xi := Lib.hid (below_step kXp_y17.out kXp_y17.out.size x2)
      obtain ⟨qi, hq⟩ : ∃ qi, y17.heap.size = qi := ⟨_, rfl⟩
      rw [hq] at hvi hli ⊢
      clear x0 x1 x2 hq hmx hmk0
      have bb := hvi.out _ kXi_Xi.out
      go_wp2_with fail
      refine (l_ref R R (some ⟨gi, 0, none⟩) (R * R) (R * R) Xi).mono ?_
      rintro e y18 ⟨rfl, hy⟩
      have kW_y18 := Lib.hid (below_step kW_Xi.out kW_Xi.out.size hy)
      have kXn_y18 := Lib.hid (below_step kXn_Xi.out kXn_Xi.out.size hy)
      have kXp_y18 := Lib.hid (below_step kXp_Xi.out kXp_Xi.out.size hy)
      have kXi_y18 := Lib.hid (below_step kXi_Xi.out kXi_Xi.out.size hy)
      clear hy bb
      skip
      go_wp2_with fail
      refine (x_identity R y18 hR).mono ?_
      rintro e y19 ⟨si, ci, rfl, hmJ, _, _, hy⟩
      have hmJh := Lib.hid hmJ
      clear hmJ
      have kW_y19 := Lib.hid (below_step kW_y18.out kW_y18.out.size hy)
      have kXn_y19 := Lib.hid (below_step kXn_y18.out kXn_y18.out.size hy)
      have kXp_y19 := Lib.hid (below_step kXp_y18.out kXp_y18.out.size hy)
      have kXi_y19 := Lib.hid (below_step kXi_y18.out kXi_y18.out.size hy)
      clear hy
      go_wp2_with fail
      refine (x_same R R (some ⟨gi, 0, none⟩) si (R * R) ci (R * R) (flF R idF) y19 (hmi.out _ kXi_y19.out).by hmJh.out.by (Nat.le_trans (rc_le hR hR) (by decide))).mono ?_
      rintro e y20 ⟨rfl, hy⟩
      have kW_y20 := Lib.hid (below_step kW_y19.out kW_y19.out.size hy)
      have kXn_y20 := Lib.hid (below_step kXn_y19.out kXn_y19.out.size hy)
      have kXp_y20 := Lib.hid (below_step kXp_y19.out kXp_y19.out.size hy)
      have kXi_y20 := Lib.hid (below_step kXi_y19.out kXi_y19.out.size hy)
      clear hy
      go_upto_region 21 with (fail)
      go_cut [165] (fun v wx => v = .bool false ∧ Below y20.heap.size y20 wx)
      case first =>
        have hS9 : Hid (∀ z, Below y20.heap.size y20 z → (fun y : World => blk y qn = some (.cells #[.int .i64 (R : Nat), .int .i64 (C : Nat), .slice (some ⟨gn, 0, none⟩) L L] 24 (0, 0))) z) := hide (fun z hz => hvn.out z (below_step kXn_y20.out kXn_y20.out.size hz))
        have hm9 : Hid (∀ z, Below y20.heap.size y20 z → MAt z (some ⟨gn, 0, none⟩) R C (fun _ _ => 0)) := hide (fun z hz => hmn.out z (below_step kXn_y20.out kXn_y20.out.size hz))
        have hBd : Hid (Below y20.heap.size y20 y20.drew) := hide (below_drewN (Below.refl _ _) 1)
        have e3 := e3h.out
        refine h_begin 19 (fun y : World => blk y qn = some (.cells #[.int .i64 (R : Nat), .int .i64 (C : Nat), .slice (some ⟨gn, 0, none⟩) L L] 24 (0, 0))) rfl (by kernel_rfl) (hS9.out _ hBd.out) ?_
        have hHeld : (fun y : World => blk y qn = some (.cells #[.int .i64 (R : Nat), .int .i64 (C : Nat), .slice (some ⟨gn, 0, none⟩) L L] 24 (0, 0))) y20.drew := hS9.out _ hBd.out
        first
          | (refine h_run (i := 0) (v := ?_) hHeld rfl (by kernel_rfl) (by kernel_rfl) (by kernel_rfl) ?_ ?_ ?_
             rotate_left
             · rfl
             · (intro x hSx; (try dsimp only at hSx); go_simp <;> with_reducible rfl)
             simp only [Act.put, List.setIfInBounds_toArray, List.set_cons_zero, List.set_cons_succ])
          | (refine h_skip (i := 0) hHeld rfl (by kernel_rfl) (by kernel_rfl) (by kernel_rfl) ?_ ?_
             · rfl
             simp only [Act.put, List.setIfInBounds_toArray, List.set_cons_zero, List.set_cons_succ])
        first
          | (refine h_run (i := 1) (v := ?_) hHeld rfl (by kernel_rfl) (by kernel_rfl) (by kernel_rfl) ?_ ?_ ?_
             rotate_left
             · rfl
             · (intro x hSx; (try dsimp only at hSx); go_simp <;> with_reducible rfl)
             simp only [Act.put, List.setIfInBounds_toArray, List.set_cons_zero, List.set_cons_succ])
          | (refine h_skip (i := 1) hHeld rfl (by kernel_rfl) (by kernel_rfl) (by kernel_rfl) ?_ ?_
             · rfl
             simp only [Act.put, List.setIfInBounds_toArray, List.set_cons_zero, List.set_cons_succ])
        first
          | (refine h_run (i := 2) (v := ?_) hHeld rfl (by kernel_rfl) (by kernel_rfl) (by kernel_rfl) ?_ ?_ ?_
             rotate_left
             · rfl
             · (intro x hSx; (try dsimp only at hSx); go_simp <;> with_reducible rfl)
             simp only [Act.put, List.setIfInBounds_toArray, List.set_cons_zero, List.set_cons_succ])
          | (refine h_skip (i := 2) hHeld rfl (by kernel_rfl) (by kernel_rfl) (by kernel_rfl) ?_ ?_
             · rfl
             simp only [Act.put, List.setIfInBounds_toArray, List.set_cons_zero, List.set_cons_succ])
        first
          | (refine h_run (i := 3) (v := ?_) hHeld rfl (by kernel_rfl) (by kernel_rfl) (by kernel_rfl) ?_ ?_ ?_
             rotate_left
             · rfl
             · (intro x hSx; (try dsimp only at hSx); go_simp <;> with_reducible rfl)
             simp only [Act.put, List.setIfInBounds_toArray, List.set_cons_zero, List.set_cons_succ])
          | (refine h_skip (i := 3) hHeld rfl (by kernel_rfl) (by kernel_rfl) (by kernel_rfl) ?_ ?_
             · rfl
             simp only [Act.put, List.setIfInBounds_toArray, List.set_cons_zero, List.set_cons_succ])
        first
          | (refine h_run (i := 4) (v := ?_) hHeld rfl (by kernel_rfl) (by kernel_rfl) (by kernel_rfl) ?_ ?_ ?_
             rotate_left
             · rfl
             · (intro x hSx; (try dsimp only at hSx); go_simp <;> with_reducible rfl)
             simp only [Act.put, List.setIfInBounds_toArray, List.set_cons_zero, List.set_cons_succ])
          | (refine h_skip (i := 4) hHeld rfl (by kernel_rfl) (by kernel_rfl) (by kernel_rfl) ?_ ?_
             · rfl
             simp only [Act.put, List.setIfInBounds_toArray, List.set_cons_zero, List.set_cons_succ])
        first
          | (refine h_run (i := 5) (v := ?_) hHeld rfl (by kernel_rfl) (by kernel_rfl) (by kernel_rfl) ?_ ?_ ?_
             rotate_left
             · rfl
             · (intro x hSx; (try dsimp only at hSx); go_simp <;> with_reducible rfl)
             simp only [Act.put, List.setIfInBounds_toArray, List.set_cons_zero, List.set_cons_succ])
          | (refine h_skip (i := 5) hHeld rfl (by kernel_rfl) (by kernel_rfl) (by kernel_rfl) ?_ ?_
             · rfl
             simp only [Act.put, List.setIfInBounds_toArray, List.set_cons_zero, List.set_cons_succ])
        first
          | (refine h_run (i := 6) (v := ?_) hHeld rfl (by kernel_rfl) (by kernel_rfl) (by kernel_rfl) ?_ ?_ ?_
             rotate_left
             · rfl
             · (intro x hSx; (try dsimp only at hSx); go_simp <;> with_reducible rfl)
             simp only [Act.put, List.setIfInBounds_toArray, List.set_cons_zero, List.set_cons_succ])
          | (refine h_skip (i := 6) hHeld rfl (by kernel_rfl) (by kernel_rfl) (by kernel_rfl) ?_ ?_
             · rfl
             simp only [Act.put, List.setIfInBounds_toArray, List.set_cons_zero, List.set_cons_succ])
        first
          | (refine h_run (i := 7) (v := ?_) hHeld rfl (by kernel_rfl) (by kernel_rfl) (by kernel_rfl) ?_ ?_ ?_
             rotate_left
             · rfl
             · (intro x hSx; (try dsimp only at hSx); go_simp <;> with_reducible rfl)
             simp only [Act.put, List.setIfInBounds_toArray, List.set_cons_zero, List.set_cons_succ])
          | (refine h_skip (i := 7) hHeld rfl (by kernel_rfl) (by kernel_rfl) (by kernel_rfl) ?_ ?_
             · rfl
             simp only [Act.put, List.setIfInBounds_toArray, List.set_cons_zero, List.set_cons_succ])
        first
          | (refine h_run (i := 9) (v := ?_) hHeld rfl (by kernel_rfl) (by kernel_rfl) (by kernel_rfl) ?_ ?_ ?_
             rotate_left
             · rfl
             · (intro x hSx; (try dsimp only at hSx); go_simp <;> with_reducible rfl)
             simp only [Act.put, List.setIfInBounds_toArray, List.set_cons_zero, List.set_cons_succ])
          | (refine h_skip (i := 9) hHeld rfl (by kernel_rfl) (by kernel_rfl) (by kernel_rfl) ?_ ?_
             · rfl
             simp only [Act.put, List.setIfInBounds_toArray, List.set_cons_zero, List.set_cons_succ])
        first
          | (refine h_run (i := 10) (v := ?_) hHeld rfl (by kernel_rfl) (by kernel_rfl) (by kernel_rfl) ?_ ?_ ?_
             rotate_left
             · rfl
             · (intro x hSx; (try dsimp only at hSx); go_simp <;> with_reducible rfl)
             simp only [Act.put, List.setIfInBounds_toArray, List.set_cons_zero, List.set_cons_succ])
          | (refine h_skip (i := 10) hHeld rfl (by kernel_rfl) (by kernel_rfl) (by kernel_rfl) ?_ ?_
             · rfl
             simp only [Act.put, List.setIfInBounds_toArray, List.set_cons_zero, List.set_cons_succ])
        first
          | (refine h_run (i := 11) (v := ?_) hHeld rfl (by kernel_rfl) (by kernel_rfl) (by kernel_rfl) ?_ ?_ ?_
             rotate_left
             · rfl
             · (intro x hSx; (try dsimp only at hSx); go_simp <;> with_reducible rfl)
             simp only [Act.put, List.setIfInBounds_toArray, List.set_cons_zero, List.set_cons_succ])
          | (refine h_skip (i := 11) hHeld rfl (by kernel_rfl) (by kernel_rfl) (by kernel_rfl) ?_ ?_
             · rfl
             simp only [Act.put, List.setIfInBounds_toArray, List.set_cons_zero, List.set_cons_succ])
        first
          | (refine h_run (i := 12) (v := ?_) hHeld rfl (by kernel_rfl) (by kernel_rfl) (by kernel_rfl) ?_ ?_ ?_
             rotate_left
             · rfl
             · (intro x hSx; (try dsimp only at hSx); go_simp <;> with_reducible rfl)
             simp only [Act.put, List.setIfInBounds_toArray, List.set_cons_zero, List.set_cons_succ])
          | (refine h_skip (i := 12) hHeld rfl (by kernel_rfl) (by kernel_rfl) (by kernel_rfl) ?_ ?_
             · rfl
             simp only [Act.put, List.setIfInBounds_toArray, List.set_cons_zero, List.set_cons_succ])
        first
          | (refine h_run (i := 13) (v := ?_) hHeld rfl (by kernel_rfl) (by kernel_rfl) (by kernel_rfl) ?_ ?_ ?_
             rotate_left
             · rfl
             · (intro x hSx; (try dsimp only at hSx); go_simp <;> with_reducible rfl)
             simp only [Act.put, List.setIfInBounds_toArray, List.set_cons_zero, List.set_cons_succ])
          | (refine h_skip (i := 13) hHeld rfl (by kernel_rfl) (by kernel_rfl) (by kernel_rfl) ?_ ?_
             · rfl
             simp only [Act.put, List.setIfInBounds_toArray, List.set_cons_zero, List.set_cons_succ])
        clear hHeld e3
        have hmk := hmkh.out
        generalize y20.drew = z at *
        have hWd : y20.heap.size ≤ z.heap.size := hBd.out.size
        have hal : Below y20.heap.size y20 (z.alloc (.cells (madeCells #[.int .u8 0] L) 5)) := hBd.out.alloc hWd _
        refine h_pairN (i := 14) (j := 8) (v := .slice (some ⟨z.heap.size, 0, none⟩) L L) (w1 := z.alloc (.cells (madeCells #[.int .u8 0] L) 5)) (l_ref R C (some ⟨gn, 0, none⟩) L L z) rfl rfl (by kernel_rfl) rfl rfl ?_ ?_ (hS9.out _ hal) ?_ ?_
        · go_simp <;> with_reducible rfl
        · go_simp <;> with_reducible rfl
        · have hmz := Lib.hid (hmrow.out z)
          have halh := Lib.hid hal
          clear hal hmk
          generalize z.alloc (.cells (madeCells #[.int .u8 0] L) 5) = z1 at *
          have hHeld : (fun y : World => blk y qn = some (.cells #[.int .i64 (R : Nat), .int .i64 (C : Nat), .slice (some ⟨gn, 0, none⟩) L L] 24 (0, 0))) z1 := hS9.out _ halh.out
          first
            | (refine h_run (i := 15) (v := ?_) hHeld rfl (by kernel_rfl) (by kernel_rfl) (by kernel_rfl) ?_ ?_ ?_
               rotate_left
               · rfl
               · (intro x hSx; (try dsimp only at hSx); go_simp <;> with_reducible rfl)
               simp only [Act.put, List.setIfInBounds_toArray, List.set_cons_zero, List.set_cons_succ])
            | (refine h_skip (i := 15) hHeld rfl (by kernel_rfl) (by kernel_rfl) (by kernel_rfl) ?_ ?_
               · rfl
               simp only [Act.put, List.setIfInBounds_toArray, List.set_cons_zero, List.set_cons_succ])
          clear hHeld
          refine h_call (i := 8) (fun y : World => blk y qn = some (.cells #[.int .i64 (R : Nat), .int .i64 (C : Nat), .slice (some ⟨gn, 0, none⟩) L L] 24 (0, 0))) (fun _ h => h) (l_ref R C (some ⟨gn, 0, none⟩) L L z1) rfl (by kernel_rfl) rfl ?_ ?_
          · go_simp <;> with_reducible rfl
          rintro e z2 ⟨rfl, hy⟩
          have hz2 := Lib.hid (below_step halh.out halh.out.size hy)
          have hmz2 := Lib.hid (hmz.out.below hy)
          refine ⟨_, rfl, hS9.out _ hz2.out, ?_⟩
          clear hy
          refine h_call (i := 16) (fun y : World => blk y qn = some (.cells #[.int .i64 (R : Nat), .int .i64 (C : Nat), .slice (some ⟨gn, 0, none⟩) L L] 24 (0, 0))) (fun _ h => h) (x_same R C (some ⟨gn, 0, none⟩) (some ⟨z.heap.size, 0, none⟩) L L L (flF C (fun _ _ => 0)) z2 (hbyl.out _ _ _ (hm9.out _ hz2.out)) (hbyl.out _ _ _ hmz2.out) hL8) rfl (by kernel_rfl) rfl ?_ ?_
          · go_simp <;> with_reducible rfl
          rintro e z3 ⟨rfl, hy⟩
          have hz3 := Lib.hid (below_step hz2.out hz2.out.size hy)
          refine ⟨_, rfl, hS9.out _ hz3.out, ?_⟩
          clear hy
          have hHeld : (fun y : World => blk y qn = some (.cells #[.int .i64 (R : Nat), .int .i64 (C : Nat), .slice (some ⟨gn, 0, none⟩) L L] 24 (0, 0))) z3 := hS9.out _ hz3.out
          first
            | (refine h_run (i := 17) (v := ?_) hHeld rfl (by kernel_rfl) (by kernel_rfl) (by kernel_rfl) ?_ ?_ ?_
               rotate_left
               · rfl
               · (intro x hSx; (try dsimp only at hSx); go_simp <;> with_reducible rfl)
               simp only [Act.put, List.setIfInBounds_toArray, List.set_cons_zero, List.set_cons_succ])
            | (refine h_skip (i := 17) hHeld rfl (by kernel_rfl) (by kernel_rfl) (by kernel_rfl) ?_ ?_
               · rfl
               simp only [Act.put, List.setIfInBounds_toArray, List.set_cons_zero, List.set_cons_succ])
          first
            | (refine h_run (i := 18) (v := ?_) hHeld rfl (by kernel_rfl) (by kernel_rfl) (by kernel_rfl) ?_ ?_ ?_
               rotate_left
               · rfl
               · (intro x hSx; (try dsimp only at hSx); go_simp <;> with_reducible rfl)
               simp only [Act.put, List.setIfInBounds_toArray, List.set_cons_zero, List.set_cons_succ])
            | (refine h_skip (i := 18) hHeld rfl (by kernel_rfl) (by kernel_rfl) (by kernel_rfl) ?_ ?_
               · rfl
               simp only [Act.put, List.setIfInBounds_toArray, List.set_cons_zero, List.set_cons_succ])
          clear hHeld
          refine h_done (by kernel_rfl) ?_
          go_wp2_with fail
          go_meet
          exact ⟨rfl, hz3.out⟩
        · rintro e z1 ⟨rfl, hy⟩
          have hz1 := Lib.hid (below_step hBd.out hBd.out.size hy)
          refine ⟨_, rfl, hS9.out _ hz1.out, ?_⟩
          clear hy hal
          have hal : Below y20.heap.size y20 (z1.alloc (.cells (madeCells #[.int .u8 0] L) 5)) := hz1.out.alloc hz1.out.size _
          have hHeld : (fun y : World => blk y qn = some (.cells #[.int .i64 (R : Nat), .int .i64 (C : Nat), .slice (some ⟨gn, 0, none⟩) L L] 24 (0, 0))) z1 := hS9.out _ hz1.out
          refine h_value (i := 14) (v := .slice (some ⟨z1.heap.size, 0, none⟩) L L) (w' := z1.alloc (.cells (madeCells #[.int .u8 0] L) 5)) (fun y : World => blk y qn = some (.cells #[.int .i64 (R : Nat), .int .i64 (C : Nat), .slice (some ⟨gn, 0, none⟩) L L] 24 (0, 0))) (fun _ h => h) rfl (by kernel_rfl) rfl ?_ (hS9.out _ hal) ?_
          · go_simp <;> with_reducible rfl
          have hmz := Lib.hid (hmrow.out z1)
          have halh := Lib.hid hal
          clear hal hmk hHeld
          generalize z1.alloc (.cells (madeCells #[.int .u8 0] L) 5) = z2 at *
          have hHeld : (fun y : World => blk y qn = some (.cells #[.int .i64 (R : Nat), .int .i64 (C : Nat), .slice (some ⟨gn, 0, none⟩) L L] 24 (0, 0))) z2 := hS9.out _ halh.out
          first
            | (refine h_run (i := 15) (v := ?_) hHeld rfl (by kernel_rfl) (by kernel_rfl) (by kernel_rfl) ?_ ?_ ?_
               rotate_left
               · rfl
               · (intro x hSx; (try dsimp only at hSx); go_simp <;> with_reducible rfl)
               simp only [Act.put, List.setIfInBounds_toArray, List.set_cons_zero, List.set_cons_succ])
            | (refine h_skip (i := 15) hHeld rfl (by kernel_rfl) (by kernel_rfl) (by kernel_rfl) ?_ ?_
               · rfl
               simp only [Act.put, List.setIfInBounds_toArray, List.set_cons_zero, List.set_cons_succ])
          clear hHeld
          refine h_call (i := 16) (fun y : World => blk y qn = some (.cells #[.int .i64 (R : Nat), .int .i64 (C : Nat), .slice (some ⟨gn, 0, none⟩) L L] 24 (0, 0))) (fun _ h => h) (x_same R C (some ⟨gn, 0, none⟩) (some ⟨z1.heap.size, 0, none⟩) L L L (flF C (fun _ _ => 0)) z2 (hbyl.out _ _ _ (hm9.out _ halh.out)) (hbyl.out _ _ _ hmz.out) hL8) rfl (by kernel_rfl) rfl ?_ ?_
          · go_simp <;> with_reducible rfl
          rintro e z3 ⟨rfl, hy⟩
          have hz3 := Lib.hid (below_step halh.out halh.out.size hy)
          refine ⟨_, rfl, hS9.out _ hz3.out, ?_⟩
          clear hy
          have hHeld : (fun y : World => blk y qn = some (.cells #[.int .i64 (R : Nat), .int .i64 (C : Nat), .slice (some ⟨gn, 0, none⟩) L L] 24 (0, 0))) z3 := hS9.out _ hz3.out
          first
            | (refine h_run (i := 17) (v := ?_) hHeld rfl (by kernel_rfl) (by kernel_rfl) (by kernel_rfl) ?_ ?_ ?_
               rotate_left
               · rfl
               · (intro x hSx; (try dsimp only at hSx); go_simp <;> with_reducible rfl)
               simp only [Act.put, List.setIfInBounds_toArray, List.set_cons_zero, List.set_cons_succ])
            | (refine h_skip (i := 17) hHeld rfl (by kernel_rfl) (by kernel_rfl) (by kernel_rfl) ?_ ?_
               · rfl
               simp only [Act.put, List.setIfInBounds_toArray, List.set_cons_zero, List.set_cons_succ])
          first
            | (refine h_run (i := 18) (v := ?_) hHeld rfl (by kernel_rfl) (by kernel_rfl) (by kernel_rfl) ?_ ?_ ?_
               rotate_left
               · rfl
               · (intro x hSx; (try dsimp only at hSx); go_simp <;> with_reducible rfl)
               simp only [Act.put, List.setIfInBounds_toArray, List.set_cons_zero, List.set_cons_succ])
            | (refine h_skip (i := 18) hHeld rfl (by kernel_rfl) (by kernel_rfl) (by kernel_rfl) ?_ ?_
               · rfl
               simp only [Act.put, List.setIfInBounds_toArray, List.set_cons_zero, List.set_cons_succ])
          clear hHeld
          refine h_done (by kernel_rfl) ?_
          go_wp2_with fail
          go_meet
          exact ⟨rfl, hz3.out⟩
      case rest =>
        obtain ⟨rfl, hy⟩ := hcut
        have kW_wc := Lib.hid (below_step kW_y20.out kW_y20.out.size hy)
        have kXn_wc := Lib.hid (below_step kXn_y20.out kXn_y20.out.size hy)
        have kXp_wc := Lib.hid (below_step kXp_y20.out kXp_y20.out.size hy)
        have kXi_wc := Lib.hid (below_step kXi_y20.out kXi_y20.out.size hy)
        clear hy
        have e3 := e3h.out
        by_cases h4 : 400 < L
        · have g3 : decide ((400 : Int) < (L : Int)) = true := decide_eq_true (by omega)
          have g4 : decide (400 < L) = true := decide_eq_true h4
          have hlast := Lib.hid (hfin.out _ kW_wc.out)
          go_wp2_with fail
          go_ret
          exact ⟨rfl, hlast.out⟩
        · have g3 : decide ((400 : Int) < (L : Int)) = false := decide_eq_false (by omega)
          have g4 : decide (400 < L) = false := decide_eq_false h4
          have bb := hvp.out _ kXp_wc.out
          go_wp2_with fail
          refine (l_ref R C (some ⟨gp, 0, none⟩) L L wc).mono ?_
          rintro e y21 ⟨rfl, hy⟩
          have kW_y21 := Lib.hid (below_step kW_wc.out kW_wc.out.size hy)
          have kXn_y21 := Lib.hid (below_step kXn_wc.out kXn_wc.out.size hy)
          have kXp_y21 := Lib.hid (below_step kXp_wc.out kXp_wc.out.size hy)
          have kXi_y21 := Lib.hid (below_step kXi_wc.out kXi_wc.out.size hy)
          clear hy bb
          go_wp2_with fail
          refine (kxp2.out y21).mono ?_
          rintro e y22 ⟨sp, cp, rfl, hmP, hy⟩
          have hmPh := Lib.hid hmP
          clear hmP
          have kW_y22 := Lib.hid (below_step kW_y21.out kW_y21.out.size hy)
          have kXn_y22 := Lib.hid (below_step kXn_y21.out kXn_y21.out.size hy)
          have kXp_y22 := Lib.hid (below_step kXp_y21.out kXp_y21.out.size hy)
          have kXi_y22 := Lib.hid (below_step kXi_y21.out kXi_y21.out.size hy)
          clear hy
          go_wp2_with fail
          refine (x_same R C (some ⟨gp, 0, none⟩) sp L cp L (flF C pwF) y22 (hbyl.out _ _ _ (hmp.out _ kXp_y22.out)) (hbyl.out _ _ _ hmPh.out) hL8).mono ?_
          rintro e y23 ⟨rfl, hy⟩
          have kW_y23 := Lib.hid (below_step kW_y22.out kW_y22.out.size hy)
          have kXn_y23 := Lib.hid (below_step kXn_y22.out kXn_y22.out.size hy)
          have kXp_y23 := Lib.hid (below_step kXp_y22.out kXp_y22.out.size hy)
          have kXi_y23 := Lib.hid (below_step kXi_y22.out kXi_y22.out.size hy)
          clear hy
          have hlast := Lib.hid (hfin.out _ kW_y23.out)
          go_wp2_with fail
          go_ret
          exact ⟨rfl, hlast.out⟩
    · skip
      subst h
      have f0 : decide (a1 < 0) = true := decide_eq_true h1
      go_upto_region 12 with (fail)
      clear bm c0 hcond f0
      by_cases ha0 : a0 < 0
      · skip
        have d0 : decide (a0 < 0) = true := decide_eq_true ha0
        have hbad : a0 < 0 ∨ (a1 : Int) < 0 ∨ 255 < a0 ∨ 255 < (a1 : Int) := .inl ha0
        have hbad0 : a0 < 0 ∨ 255 < a0 := .inl ha0
        have hbadh := Lib.hid hbad
        have hbad0h := Lib.hid hbad0
        clear hbad hbad0
        go_wp2_with fail
        refine (m_new_no a0 a1 y13 hbadh.out).mono ?_
        rintro e y14 ⟨rfl, hy⟩
        have kW_y14 := Lib.hid (below_step kW_y13.out kW_y13.out.size hy)
        clear hy
        go_upto_region 13 with (fail)
        obtain ⟨x0, x1, x2⟩ := boxed y14 #[.int .i64 0, .int .i64 0, .slice none 0 0] #[.int .i64 0, .int .i64 0, .slice none 0 0] 24
        generalize World.setRow (World.alloc y14 _) _ _ = Xn at *
        have hln : y14.heap.size < Xn.heap.size := by omega
        have hvn : Hid (∀ z, Below Xn.heap.size Xn z → blk z y14.heap.size = some (.cells #[.int .i64 0, .int .i64 0, .slice none 0 0] 24 (0, 0))) := hide (fun z hz => (blk_below hz hln).trans (blk_of x0))
        have kXn_Xn : Hid (Below Xn.heap.size Xn Xn) := hide (Below.refl _ _)
        have kW_Xn := Lib.hid (below_step kW_y14.out kW_y14.out.size x2)
        obtain ⟨qn, hq⟩ : ∃ qn, y14.heap.size = qn := ⟨_, rfl⟩
        rw [hq] at hvn hln ⊢
        clear x0 x1 x2 hq
        go_wp2_with fail
        refine (gf_new_below Xn).mono ?_
        rintro e y15 ⟨rfl, hgf, hy⟩
        clear hgf
        have kW_y15 := Lib.hid (below_step kW_Xn.out kW_Xn.out.size hy)
        have kXn_y15 := Lib.hid (below_step kXn_Xn.out kXn_Xn.out.size hy)
        clear hy
        go_wp2_with fail
        refine (m_powers_no _ a0 a1 y15 hbadh.out).mono ?_
        rintro e y16 ⟨rfl, hy⟩
        have kW_y16 := Lib.hid (below_step kW_y15.out kW_y15.out.size hy)
        have kXn_y16 := Lib.hid (below_step kXn_y15.out kXn_y15.out.size hy)
        clear hy
        go_upto_region 14 with (fail)
        obtain ⟨x0, x1, x2⟩ := boxed y16 #[.int .i64 0, .int .i64 0, .slice none 0 0] #[.int .i64 0, .int .i64 0, .slice none 0 0] 24
        generalize World.setRow (World.alloc y16 _) _ _ = Xp at *
        have hlp : y16.heap.size < Xp.heap.size := by omega
        have hvp : Hid (∀ z, Below Xp.heap.size Xp z → blk z y16.heap.size = some (.cells #[.int .i64 0, .int .i64 0, .slice none 0 0] 24 (0, 0))) := hide (fun z hz => (blk_below hz hlp).trans (blk_of x0))
        have kXp_Xp : Hid (Below Xp.heap.size Xp Xp) := hide (Below.refl _ _)
        have kW_Xp := Lib.hid (below_step kW_y16.out kW_y16.out.size x2)
        have kXn_Xp := Lib.hid (below_step kXn_y16.out kXn_y16.out.size x2)
        obtain ⟨qp, hq⟩ : ∃ qp, y16.heap.size = qp := ⟨_, rfl⟩
        rw [hq] at hvp hlp ⊢
        clear x0 x1 x2 hq
        go_wp2_with fail
        refine (m_identity_no a0 Xp hbad0h.out).mono ?_
        rintro e y17 ⟨rfl, hy⟩
        have kW_y17 := Lib.hid (below_step kW_Xp.out kW_Xp.out.size hy)
        have kXn_y17 := Lib.hid (below_step kXn_Xp.out kXn_Xp.out.size hy)
        have kXp_y17 := Lib.hid (below_step kXp_Xp.out kXp_Xp.out.size hy)
        clear hy
        go_upto_region 15 with (fail)
        obtain ⟨x0, x1, x2⟩ := boxed y17 #[.int .i64 0, .int .i64 0, .slice none 0 0] #[.int .i64 0, .int .i64 0, .slice none 0 0] 24
        generalize World.setRow (World.alloc y17 _) _ _ = Xi at *
        have hli : y17.heap.size < Xi.heap.size := by omega
        have hvi : Hid (∀ z, Below Xi.heap.size Xi z → blk z y17.heap.size = some (.cells #[.int .i64 0, .int .i64 0, .slice none 0 0] 24 (0, 0))) := hide (fun z hz => (blk_below hz hli).trans (blk_of x0))
        have kXi_Xi : Hid (Below Xi.heap.size Xi Xi) := hide (Below.refl _ _)
        have kW_Xi := Lib.hid (below_step kW_y17.out kW_y17.out.size x2)
        have kXn_Xi := Lib.hid (below_step kXn_y17.out kXn_y17.out.size x2)
        have kXp_Xi := Lib.hid (below_step kXp_y17.out kXp_y17.out.size x2)
        obtain ⟨qi, hq⟩ : ∃ qi, y17.heap.size = qi := ⟨_, rfl⟩
        rw [hq] at hvi hli ⊢
        clear x0 x1 x2 hq
        have bb := hvn.out _ kXn_Xi.out
        go_wp2_with fail
        refine (l_none Xi).mono ?_
        rintro e y18 ⟨rfl, hy⟩
        have kW_y18 := Lib.hid (below_step kW_Xi.out kW_Xi.out.size hy)
        have kXn_y18 := Lib.hid (below_step kXn_Xi.out kXn_Xi.out.size hy)
        have kXp_y18 := Lib.hid (below_step kXp_Xi.out kXp_Xi.out.size hy)
        have kXi_y18 := Lib.hid (below_step kXi_Xi.out kXi_Xi.out.size hy)
        clear hy bb
        have bb := hvp.out _ kXp_y18.out
        go_wp2_with fail
        refine (l_none y18).mono ?_
        rintro e y19 ⟨rfl, hy⟩
        have kW_y19 := Lib.hid (below_step kW_y18.out kW_y18.out.size hy)
        have kXn_y19 := Lib.hid (below_step kXn_y18.out kXn_y18.out.size hy)
        have kXp_y19 := Lib.hid (below_step kXp_y18.out kXp_y18.out.size hy)
        have kXi_y19 := Lib.hid (below_step kXi_y18.out kXi_y18.out.size hy)
        clear hy bb
        have bb := hvi.out _ kXi_y19.out
        go_wp2_with fail
        refine (l_none y19).mono ?_
        rintro e y20 ⟨rfl, hy⟩
        have kW_y20 := Lib.hid (below_step kW_y19.out kW_y19.out.size hy)
        have kXn_y20 := Lib.hid (below_step kXn_y19.out kXn_y19.out.size hy)
        have kXp_y20 := Lib.hid (below_step kXp_y19.out kXp_y19.out.size hy)
        have kXi_y20 := Lib.hid (below_step kXi_y19.out kXi_y19.out.size hy)
        clear hy bb
        have hlast := Lib.hid (hfin.out _ kW_y20.out)
        go_wp2_with fail
        go_ret
        exact ⟨rfl, hlast.out⟩
      by_cases hb0 : 255 < a0
      · skip
        have d0 : decide (a0 < 0) = false := decide_eq_false (by omega)
        have d1 : decide (255 < a0) = true := decide_eq_true hb0
        have hbad : a0 < 0 ∨ (a1 : Int) < 0 ∨ 255 < a0 ∨ 255 < (a1 : Int) := .inr (.inr (.inl hb0))
        have hbad0 : a0 < 0 ∨ 255 < a0 := .inr hb0
        have hbadh := Lib.hid hbad
        have hbad0h := Lib.hid hbad0
        clear hbad hbad0
        go_wp2_with fail
        refine (m_new_no a0 a1 y13 hbadh.out).mono ?_
        rintro e y14 ⟨rfl, hy⟩
        have kW_y14 := Lib.hid (below_step kW_y13.out kW_y13.out.size hy)
        clear hy
        go_upto_region 13 with (fail)
        obtain ⟨x0, x1, x2⟩ := boxed y14 #[.int .i64 0, .int .i64 0, .slice none 0 0] #[.int .i64 0, .int .i64 0, .slice none 0 0] 24
        generalize World.setRow (World.alloc y14 _) _ _ = Xn at *
        have hln : y14.heap.size < Xn.heap.size := by omega
        have hvn : Hid (∀ z, Below Xn.heap.size Xn z → blk z y14.heap.size = some (.cells #[.int .i64 0, .int .i64 0, .slice none 0 0] 24 (0, 0))) := hide (fun z hz => (blk_below hz hln).trans (blk_of x0))
        have kXn_Xn : Hid (Below Xn.heap.size Xn Xn) := hide (Below.refl _ _)
        have kW_Xn := Lib.hid (below_step kW_y14.out kW_y14.out.size x2)
        obtain ⟨qn, hq⟩ : ∃ qn, y14.heap.size = qn := ⟨_, rfl⟩
        rw [hq] at hvn hln ⊢
        clear x0 x1 x2 hq
        go_wp2_with fail
        refine (gf_new_below Xn).mono ?_
        rintro e y15 ⟨rfl, hgf, hy⟩
        clear hgf
        have kW_y15 := Lib.hid (below_step kW_Xn.out kW_Xn.out.size hy)
        have kXn_y15 := Lib.hid (below_step kXn_Xn.out kXn_Xn.out.size hy)
        clear hy
        go_wp2_with fail
        refine (m_powers_no _ a0 a1 y15 hbadh.out).mono ?_
        rintro e y16 ⟨rfl, hy⟩
        have kW_y16 := Lib.hid (below_step kW_y15.out kW_y15.out.size hy)
        have kXn_y16 := Lib.hid (below_step kXn_y15.out kXn_y15.out.size hy)
        clear hy
        go_upto_region 14 with (fail)
        obtain ⟨x0, x1, x2⟩ := boxed y16 #[.int .i64 0, .int .i64 0, .slice none 0 0] #[.int .i64 0, .int .i64 0, .slice none 0 0] 24
        generalize World.setRow (World.alloc y16 _) _ _ = Xp at *
        have hlp : y16.heap.size < Xp.heap.size := by omega
        have hvp : Hid (∀ z, Below Xp.heap.size Xp z → blk z y16.heap.size = some (.cells #[.int .i64 0, .int .i64 0, .slice none 0 0] 24 (0, 0))) := hide (fun z hz => (blk_below hz hlp).trans (blk_of x0))
        have kXp_Xp : Hid (Below Xp.heap.size Xp Xp) := hide (Below.refl _ _)
        have kW_Xp := Lib.hid (below_step kW_y16.out kW_y16.out.size x2)
        have kXn_Xp := Lib.hid (below_step kXn_y16.out kXn_y16.out.size x2)
        obtain ⟨qp, hq⟩ : ∃ qp, y16.heap.size = qp := ⟨_, rfl⟩
        rw [hq] at hvp hlp ⊢
        clear x0 x1 x2 hq
        go_wp2_with fail
        refine (m_identity_no a0 Xp hbad0h.out).mono ?_
        rintro e y17 ⟨rfl, hy⟩
        have kW_y17 := Lib.hid (below_step kW_Xp.out kW_Xp.out.size hy)
        have kXn_y17 := Lib.hid (below_step kXn_Xp.out kXn_Xp.out.size hy)
        have kXp_y17 := Lib.hid (below_step kXp_Xp.out kXp_Xp.out.size hy)
        clear hy
        go_upto_region 15 with (fail)
        obtain ⟨x0, x1, x2⟩ := boxed y17 #[.int .i64 0, .int .i64 0, .slice none 0 0] #[.int .i64 0, .int .i64 0, .slice none 0 0] 24
        generalize World.setRow (World.alloc y17 _) _ _ = Xi at *
        have hli : y17.heap.size < Xi.heap.size := by omega
        have hvi : Hid (∀ z, Below Xi.heap.size Xi z → blk z y17.heap.size = some (.cells #[.int .i64 0, .int .i64 0, .slice none 0 0] 24 (0, 0))) := hide (fun z hz => (blk_below hz hli).trans (blk_of x0))
        have kXi_Xi : Hid (Below Xi.heap.size Xi Xi) := hide (Below.refl _ _)
        have kW_Xi := Lib.hid (below_step kW_y17.out kW_y17.out.size x2)
        have kXn_Xi := Lib.hid (below_step kXn_y17.out kXn_y17.out.size x2)
        have kXp_Xi := Lib.hid (below_step kXp_y17.out kXp_y17.out.size x2)
        obtain ⟨qi, hq⟩ : ∃ qi, y17.heap.size = qi := ⟨_, rfl⟩
        rw [hq] at hvi hli ⊢
        clear x0 x1 x2 hq
        have bb := hvn.out _ kXn_Xi.out
        go_wp2_with fail
        refine (l_none Xi).mono ?_
        rintro e y18 ⟨rfl, hy⟩
        have kW_y18 := Lib.hid (below_step kW_Xi.out kW_Xi.out.size hy)
        have kXn_y18 := Lib.hid (below_step kXn_Xi.out kXn_Xi.out.size hy)
        have kXp_y18 := Lib.hid (below_step kXp_Xi.out kXp_Xi.out.size hy)
        have kXi_y18 := Lib.hid (below_step kXi_Xi.out kXi_Xi.out.size hy)
        clear hy bb
        have bb := hvp.out _ kXp_y18.out
        go_wp2_with fail
        refine (l_none y18).mono ?_
        rintro e y19 ⟨rfl, hy⟩
        have kW_y19 := Lib.hid (below_step kW_y18.out kW_y18.out.size hy)
        have kXn_y19 := Lib.hid (below_step kXn_y18.out kXn_y18.out.size hy)
        have kXp_y19 := Lib.hid (below_step kXp_y18.out kXp_y18.out.size hy)
        have kXi_y19 := Lib.hid (below_step kXi_y18.out kXi_y18.out.size hy)
        clear hy bb
        have bb := hvi.out _ kXi_y19.out
        go_wp2_with fail
        refine (l_none y19).mono ?_
        rintro e y20 ⟨rfl, hy⟩
        have kW_y20 := Lib.hid (below_step kW_y19.out kW_y19.out.size hy)
        have kXn_y20 := Lib.hid (below_step kXn_y19.out kXn_y19.out.size hy)
        have kXp_y20 := Lib.hid (below_step kXp_y19.out kXp_y19.out.size hy)
        have kXi_y20 := Lib.hid (below_step kXi_y19.out kXi_y19.out.size hy)
        clear hy bb
        have hlast := Lib.hid (hfin.out _ kW_y20.out)
        go_wp2_with fail
        go_ret
        exact ⟨rfl, hlast.out⟩
      obtain ⟨R, hRe⟩ : ∃ R : Nat, a0 = R := ⟨a0.toNat, by omega⟩
      subst hRe
      have hR : R ≤ 255 := by omega
      clear ha0 hb0
      have ha1 := h1
      have e0 : decide (a1 < 0) = true := decide_eq_true ha1
      have hbad : (R : Int) < 0 ∨ a1 < 0 ∨ 255 < (R : Int) ∨ 255 < a1 := .inr (.inl ha1)
      have hbadh := Lib.hid hbad
      clear hbad
      go_wp2_with fail
      refine (m_new_no R a1 y13 hbadh.out).mono ?_
      rintro e y14 ⟨rfl, hy⟩
      have kW_y14 := Lib.hid (below_step kW_y13.out kW_y13.out.size hy)
      clear hy
      go_upto_region 13 with (fail)
      obtain ⟨x0, x1, x2⟩ := boxed y14 #[.int .i64 0, .int .i64 0, .slice none 0 0] #[.int .i64 0, .int .i64 0, .slice none 0 0] 24
      generalize World.setRow (World.alloc y14 _) _ _ = Xn at *
      have hln : y14.heap.size < Xn.heap.size := by omega
      have hvn : Hid (∀ z, Below Xn.heap.size Xn z → blk z y14.heap.size = some (.cells #[.int .i64 0, .int .i64 0, .slice none 0 0] 24 (0, 0))) := hide (fun z hz => (blk_below hz hln).trans (blk_of x0))
      have kXn_Xn : Hid (Below Xn.heap.size Xn Xn) := hide (Below.refl _ _)
      have kW_Xn := Lib.hid (below_step kW_y14.out kW_y14.out.size x2)
      obtain ⟨qn, hq⟩ : ∃ qn, y14.heap.size = qn := ⟨_, rfl⟩
      rw [hq] at hvn hln ⊢
      clear x0 x1 x2 hq
      go_wp2_with fail
      refine (gf_new_below Xn).mono ?_
      rintro e y15 ⟨rfl, hgf, hy⟩
      clear hgf
      have kW_y15 := Lib.hid (below_step kW_Xn.out kW_Xn.out.size hy)
      have kXn_y15 := Lib.hid (below_step kXn_Xn.out kXn_Xn.out.size hy)
      clear hy
      go_wp2_with fail
      refine (m_powers_no _ R a1 y15 hbadh.out).mono ?_
      rintro e y16 ⟨rfl, hy⟩
      have kW_y16 := Lib.hid (below_step kW_y15.out kW_y15.out.size hy)
      have kXn_y16 := Lib.hid (below_step kXn_y15.out kXn_y15.out.size hy)
      clear hy
      go_upto_region 14 with (fail)
      obtain ⟨x0, x1, x2⟩ := boxed y16 #[.int .i64 0, .int .i64 0, .slice none 0 0] #[.int .i64 0, .int .i64 0, .slice none 0 0] 24
      generalize World.setRow (World.alloc y16 _) _ _ = Xp at *
      have hlp : y16.heap.size < Xp.heap.size := by omega
      have hvp : Hid (∀ z, Below Xp.heap.size Xp z → blk z y16.heap.size = some (.cells #[.int .i64 0, .int .i64 0, .slice none 0 0] 24 (0, 0))) := hide (fun z hz => (blk_below hz hlp).trans (blk_of x0))
      have kXp_Xp : Hid (Below Xp.heap.size Xp Xp) := hide (Below.refl _ _)
      have kW_Xp := Lib.hid (below_step kW_y16.out kW_y16.out.size x2)
      have kXn_Xp := Lib.hid (below_step kXn_y16.out kXn_y16.out.size x2)
      obtain ⟨qp, hq⟩ : ∃ qp, y16.heap.size = qp := ⟨_, rfl⟩
      rw [hq] at hvp hlp ⊢
      clear x0 x1 x2 hq
      go_wp2_with fail
      refine (m_identity R Xp hR).mono ?_
      rintro e y17 ⟨gi, rfl, hgi, hmi0, hy⟩
      have hmi1 := Lib.hid hmi0.mat
      have hmi2 := Lib.hid (fun z (hz : Below y17.heap.size y17 z) => hmi1.out.below hz)
      clear hmi0 hgi hmi1
      have kW_y17 := Lib.hid (below_step kW_Xp.out kW_Xp.out.size hy)
      have kXn_y17 := Lib.hid (below_step kXn_Xp.out kXn_Xp.out.size hy)
      have kXp_y17 := Lib.hid (below_step kXp_Xp.out kXp_Xp.out.size hy)
      clear hy
      have hmk0 : Hid (∀ b (D : Array Value), MAt ((World.alloc y17 b).setRow y17.heap.size D) (some ⟨gi, 0, none⟩) R R idF) := hide (fun b D => hmi2.out _ (below_setRow ((Below.refl _ _).alloc (Nat.le_refl _) _) (Nat.le_refl _) _))
      clear hmi2
      go_upto_region 15 with (fail)
      obtain ⟨x0, x1, x2⟩ := boxed y17 #[.int .i64 0, .int .i64 0, .slice none 0 0] #[.int .i64 (R : Nat), .int .i64 (R : Nat), .slice (some ⟨gi, 0, none⟩) (R * R) (R * R)] 24
      have hmx := Lib.hid (hmk0.out (.cells #[.int .i64 0, .int .i64 0, .slice none 0 0] 24) #[.int .i64 (R : Nat), .int .i64 (R : Nat), .slice (some ⟨gi, 0, none⟩) (R * R) (R * R)])
      generalize World.setRow (World.alloc y17 _) _ _ = Xi at *
      have hmi : Hid (∀ z, Below Xi.heap.size Xi z → MAt z (some ⟨gi, 0, none⟩) R R idF) := hide (fun z hz => hmx.out.below hz)
      have hli : y17.heap.size < Xi.heap.size := by omega
      have hvi : Hid (∀ z, Below Xi.heap.size Xi z → blk z y17.heap.size = some (.cells #[.int .i64 (R : Nat), .int .i64 (R : Nat), .slice (some ⟨gi, 0, none⟩) (R * R) (R * R)] 24 (0, 0))) := hide (fun z hz => (blk_below hz hli).trans (blk_of x0))
      have kXi_Xi : Hid (Below Xi.heap.size Xi Xi) := hide (Below.refl _ _)
      have kW_Xi := Lib.hid (below_step kW_y17.out kW_y17.out.size x2)
      have kXn_Xi := Lib.hid (below_step kXn_y17.out kXn_y17.out.size x2)
      have kXp_Xi := Lib.hid (below_step kXp_y17.out kXp_y17.out.size x2)
      obtain ⟨qi, hq⟩ : ∃ qi, y17.heap.size = qi := ⟨_, rfl⟩
      rw [hq] at hvi hli ⊢
      clear x0 x1 x2 hq hmx hmk0
      have bb := hvi.out _ kXi_Xi.out
      go_wp2_with fail
      refine (l_ref R R (some ⟨gi, 0, none⟩) (R * R) (R * R) Xi).mono ?_
      rintro e y18 ⟨rfl, hy⟩
      have kW_y18 := Lib.hid (below_step kW_Xi.out kW_Xi.out.size hy)
      have kXn_y18 := Lib.hid (below_step kXn_Xi.out kXn_Xi.out.size hy)
      have kXp_y18 := Lib.hid (below_step kXp_Xi.out kXp_Xi.out.size hy)
      have kXi_y18 := Lib.hid (below_step kXi_Xi.out kXi_Xi.out.size hy)
      clear hy bb
      skip
      go_wp2_with fail
      refine (x_identity R y18 hR).mono ?_
      rintro e y19 ⟨si, ci, rfl, hmJ, _, _, hy⟩
      have hmJh := Lib.hid hmJ
      clear hmJ
      have kW_y19 := Lib.hid (below_step kW_y18.out kW_y18.out.size hy)
      have kXn_y19 := Lib.hid (below_step kXn_y18.out kXn_y18.out.size hy)
      have kXp_y19 := Lib.hid (below_step kXp_y18.out kXp_y18.out.size hy)
      have kXi_y19 := Lib.hid (below_step kXi_y18.out kXi_y18.out.size hy)
      clear hy
      go_wp2_with fail
      refine (x_same R R (some ⟨gi, 0, none⟩) si (R * R) ci (R * R) (flF R idF) y19 (hmi.out _ kXi_y19.out).by hmJh.out.by (Nat.le_trans (rc_le hR hR) (by decide))).mono ?_
      rintro e y20 ⟨rfl, hy⟩
      have kW_y20 := Lib.hid (below_step kW_y19.out kW_y19.out.size hy)
      have kXn_y20 := Lib.hid (below_step kXn_y19.out kXn_y19.out.size hy)
      have kXp_y20 := Lib.hid (below_step kXp_y19.out kXp_y19.out.size hy)
      have kXi_y20 := Lib.hid (below_step kXi_y19.out kXi_y19.out.size hy)
      clear hy
      have bb := hvn.out _ kXn_y20.out
      go_wp2_with fail
      refine (l_none y20).mono ?_
      rintro e y21 ⟨rfl, hy⟩
      have kW_y21 := Lib.hid (below_step kW_y20.out kW_y20.out.size hy)
      have kXn_y21 := Lib.hid (below_step kXn_y20.out kXn_y20.out.size hy)
      have kXp_y21 := Lib.hid (below_step kXp_y20.out kXp_y20.out.size hy)
      have kXi_y21 := Lib.hid (below_step kXi_y20.out kXi_y20.out.size hy)
      clear hy bb
      have bb := hvp.out _ kXp_y21.out
      go_wp2_with fail
      refine (l_none y21).mono ?_
      rintro e y22 ⟨rfl, hy⟩
      have kW_y22 := Lib.hid (below_step kW_y21.out kW_y21.out.size hy)
      have kXn_y22 := Lib.hid (below_step kXn_y21.out kXn_y21.out.size hy)
      have kXp_y22 := Lib.hid (below_step kXp_y21.out kXp_y21.out.size hy)
      have kXi_y22 := Lib.hid (below_step kXi_y21.out kXi_y21.out.size hy)
      clear hy bb
      have hlast := Lib.hid (hfin.out _ kW_y22.out)
      go_wp2_with fail
      go_ret
      exact ⟨rfl, hlast.out⟩
    · skip
      subst h
      have f0 : decide (a1 < 0) = false := decide_eq_false h1
      have f1 : decide (r ≤ a1) = true := decide_eq_true h2
      go_upto_region 12 with (fail)
      clear bm c0 hcond f0 f1
      by_cases ha0 : a0 < 0
      · skip
        have d0 : decide (a0 < 0) = true := decide_eq_true ha0
        have hbad : a0 < 0 ∨ (a1 : Int) < 0 ∨ 255 < a0 ∨ 255 < (a1 : Int) := .inl ha0
        have hbad0 : a0 < 0 ∨ 255 < a0 := .inl ha0
        have hbadh := Lib.hid hbad
        have hbad0h := Lib.hid hbad0
        clear hbad hbad0
        go_wp2_with fail
        refine (m_new_no a0 a1 y13 hbadh.out).mono ?_
        rintro e y14 ⟨rfl, hy⟩
        have kW_y14 := Lib.hid (below_step kW_y13.out kW_y13.out.size hy)
        clear hy
        go_upto_region 13 with (fail)
        obtain ⟨x0, x1, x2⟩ := boxed y14 #[.int .i64 0, .int .i64 0, .slice none 0 0] #[.int .i64 0, .int .i64 0, .slice none 0 0] 24
        generalize World.setRow (World.alloc y14 _) _ _ = Xn at *
        have hln : y14.heap.size < Xn.heap.size := by omega
        have hvn : Hid (∀ z, Below Xn.heap.size Xn z → blk z y14.heap.size = some (.cells #[.int .i64 0, .int .i64 0, .slice none 0 0] 24 (0, 0))) := hide (fun z hz => (blk_below hz hln).trans (blk_of x0))
        have kXn_Xn : Hid (Below Xn.heap.size Xn Xn) := hide (Below.refl _ _)
        have kW_Xn := Lib.hid (below_step kW_y14.out kW_y14.out.size x2)
        obtain ⟨qn, hq⟩ : ∃ qn, y14.heap.size = qn := ⟨_, rfl⟩
        rw [hq] at hvn hln ⊢
        clear x0 x1 x2 hq
        go_wp2_with fail
        refine (gf_new_below Xn).mono ?_
        rintro e y15 ⟨rfl, hgf, hy⟩
        clear hgf
        have kW_y15 := Lib.hid (below_step kW_Xn.out kW_Xn.out.size hy)
        have kXn_y15 := Lib.hid (below_step kXn_Xn.out kXn_Xn.out.size hy)
        clear hy
        go_wp2_with fail
        refine (m_powers_no _ a0 a1 y15 hbadh.out).mono ?_
        rintro e y16 ⟨rfl, hy⟩
        have kW_y16 := Lib.hid (below_step kW_y15.out kW_y15.out.size hy)
        have kXn_y16 := Lib.hid (below_step kXn_y15.out kXn_y15.out.size hy)
        clear hy
        go_upto_region 14 with (fail)
        obtain ⟨x0, x1, x2⟩ := boxed y16 #[.int .i64 0, .int .i64 0, .slice none 0 0] #[.int .i64 0, .int .i64 0, .slice none 0 0] 24
        generalize World.setRow (World.alloc y16 _) _ _ = Xp at *
        have hlp : y16.heap.size < Xp.heap.size := by omega
        have hvp : Hid (∀ z, Below Xp.heap.size Xp z → blk z y16.heap.size = some (.cells #[.int .i64 0, .int .i64 0, .slice none 0 0] 24 (0, 0))) := hide (fun z hz => (blk_below hz hlp).trans (blk_of x0))
        have kXp_Xp : Hid (Below Xp.heap.size Xp Xp) := hide (Below.refl _ _)
        have kW_Xp := Lib.hid (below_step kW_y16.out kW_y16.out.size x2)
        have kXn_Xp := Lib.hid (below_step kXn_y16.out kXn_y16.out.size x2)
        obtain ⟨qp, hq⟩ : ∃ qp, y16.heap.size = qp := ⟨_, rfl⟩
        rw [hq] at hvp hlp ⊢
        clear x0 x1 x2 hq
        go_wp2_with fail
        refine (m_identity_no a0 Xp hbad0h.out).mono ?_
        rintro e y17 ⟨rfl, hy⟩
        have kW_y17 := Lib.hid (below_step kW_Xp.out kW_Xp.out.size hy)
        have kXn_y17 := Lib.hid (below_step kXn_Xp.out kXn_Xp.out.size hy)
        have kXp_y17 := Lib.hid (below_step kXp_Xp.out kXp_Xp.out.size hy)
        clear hy
        go_upto_region 15 with (fail)
        obtain ⟨x0, x1, x2⟩ := boxed y17 #[.int .i64 0, .int .i64 0, .slice none 0 0] #[.int .i64 0, .int .i64 0, .slice none 0 0] 24
        generalize World.setRow (World.alloc y17 _) _ _ = Xi at *
        have hli : y17.heap.size < Xi.heap.size := by omega
        have hvi : Hid (∀ z, Below Xi.heap.size Xi z → blk z y17.heap.size = some (.cells #[.int .i64 0, .int .i64 0, .slice none 0 0] 24 (0, 0))) := hide (fun z hz => (blk_below hz hli).trans (blk_of x0))
        have kXi_Xi : Hid (Below Xi.heap.size Xi Xi) := hide (Below.refl _ _)
        have kW_Xi := Lib.hid (below_step kW_y17.out kW_y17.out.size x2)
        have kXn_Xi := Lib.hid (below_step kXn_y17.out kXn_y17.out.size x2)
        have kXp_Xi := Lib.hid (below_step kXp_y17.out kXp_y17.out.size x2)
        obtain ⟨qi, hq⟩ : ∃ qi, y17.heap.size = qi := ⟨_, rfl⟩
        rw [hq] at hvi hli ⊢
        clear x0 x1 x2 hq
        have bb := hvn.out _ kXn_Xi.out
        go_wp2_with fail
        refine (l_none Xi).mono ?_
        rintro e y18 ⟨rfl, hy⟩
        have kW_y18 := Lib.hid (below_step kW_Xi.out kW_Xi.out.size hy)
        have kXn_y18 := Lib.hid (below_step kXn_Xi.out kXn_Xi.out.size hy)
        have kXp_y18 := Lib.hid (below_step kXp_Xi.out kXp_Xi.out.size hy)
        have kXi_y18 := Lib.hid (below_step kXi_Xi.out kXi_Xi.out.size hy)
        clear hy bb
        have bb := hvp.out _ kXp_y18.out
        go_wp2_with fail
        refine (l_none y18).mono ?_
        rintro e y19 ⟨rfl, hy⟩
        have kW_y19 := Lib.hid (below_step kW_y18.out kW_y18.out.size hy)
        have kXn_y19 := Lib.hid (below_step kXn_y18.out kXn_y18.out.size hy)
        have kXp_y19 := Lib.hid (below_step kXp_y18.out kXp_y18.out.size hy)
        have kXi_y19 := Lib.hid (below_step kXi_y18.out kXi_y18.out.size hy)
        clear hy bb
        have bb := hvi.out _ kXi_y19.out
        go_wp2_with fail
        refine (l_none y19).mono ?_
        rintro e y20 ⟨rfl, hy⟩
        have kW_y20 := Lib.hid (below_step kW_y19.out kW_y19.out.size hy)
        have kXn_y20 := Lib.hid (below_step kXn_y19.out kXn_y19.out.size hy)
        have kXp_y20 := Lib.hid (below_step kXp_y19.out kXp_y19.out.size hy)
        have kXi_y20 := Lib.hid (below_step kXi_y19.out kXi_y19.out.size hy)
        clear hy bb
        have hlast := Lib.hid (hfin.out _ kW_y20.out)
        go_wp2_with fail
        go_ret
        exact ⟨rfl, hlast.out⟩
      by_cases hb0 : 255 < a0
      · skip
        have d0 : decide (a0 < 0) = false := decide_eq_false (by omega)
        have d1 : decide (255 < a0) = true := decide_eq_true hb0
        have hbad : a0 < 0 ∨ (a1 : Int) < 0 ∨ 255 < a0 ∨ 255 < (a1 : Int) := .inr (.inr (.inl hb0))
        have hbad0 : a0 < 0 ∨ 255 < a0 := .inr hb0
        have hbadh := Lib.hid hbad
        have hbad0h := Lib.hid hbad0
        clear hbad hbad0
        go_wp2_with fail
        refine (m_new_no a0 a1 y13 hbadh.out).mono ?_
        rintro e y14 ⟨rfl, hy⟩
        have kW_y14 := Lib.hid (below_step kW_y13.out kW_y13.out.size hy)
        clear hy
        go_upto_region 13 with (fail)
        obtain ⟨x0, x1, x2⟩ := boxed y14 #[.int .i64 0, .int .i64 0, .slice none 0 0] #[.int .i64 0, .int .i64 0, .slice none 0 0] 24
        generalize World.setRow (World.alloc y14 _) _ _ = Xn at *
        have hln : y14.heap.size < Xn.heap.size := by omega
        have hvn : Hid (∀ z, Below Xn.heap.size Xn z → blk z y14.heap.size = some (.cells #[.int .i64 0, .int .i64 0, .slice none 0 0] 24 (0, 0))) := hide (fun z hz => (blk_below hz hln).trans (blk_of x0))
        have kXn_Xn : Hid (Below Xn.heap.size Xn Xn) := hide (Below.refl _ _)
        have kW_Xn := Lib.hid (below_step kW_y14.out kW_y14.out.size x2)
        obtain ⟨qn, hq⟩ : ∃ qn, y14.heap.size = qn := ⟨_, rfl⟩
        rw [hq] at hvn hln ⊢
        clear x0 x1 x2 hq
        go_wp2_with fail
        refine (gf_new_below Xn).mono ?_
        rintro e y15 ⟨rfl, hgf, hy⟩
        clear hgf
        have kW_y15 := Lib.hid (below_step kW_Xn.out kW_Xn.out.size hy)
        have kXn_y15 := Lib.hid (below_step kXn_Xn.out kXn_Xn.out.size hy)
        clear hy
        go_wp2_with fail
        refine (m_powers_no _ a0 a1 y15 hbadh.out).mono ?_
        rintro e y16 ⟨rfl, hy⟩
        have kW_y16 := Lib.hid (below_step kW_y15.out kW_y15.out.size hy)
        have kXn_y16 := Lib.hid (below_step kXn_y15.out kXn_y15.out.size hy)
        clear hy
        go_upto_region 14 with (fail)
        obtain ⟨x0, x1, x2⟩ := boxed y16 #[.int .i64 0, .int .i64 0, .slice none 0 0] #[.int .i64 0, .int .i64 0, .slice none 0 0] 24
        generalize World.setRow (World.alloc y16 _) _ _ = Xp at *
        have hlp : y16.heap.size < Xp.heap.size := by omega
        have hvp : Hid (∀ z, Below Xp.heap.size Xp z → blk z y16.heap.size = some (.cells #[.int .i64 0, .int .i64 0, .slice none 0 0] 24 (0, 0))) := hide (fun z hz => (blk_below hz hlp).trans (blk_of x0))
        have kXp_Xp : Hid (Below Xp.heap.size Xp Xp) := hide (Below.refl _ _)
        have kW_Xp := Lib.hid (below_step kW_y16.out kW_y16.out.size x2)
        have kXn_Xp := Lib.hid (below_step kXn_y16.out kXn_y16.out.size x2)
        obtain ⟨qp, hq⟩ : ∃ qp, y16.heap.size = qp := ⟨_, rfl⟩
        rw [hq] at hvp hlp ⊢
        clear x0 x1 x2 hq
        go_wp2_with fail
        refine (m_identity_no a0 Xp hbad0h.out).mono ?_
        rintro e y17 ⟨rfl, hy⟩
        have kW_y17 := Lib.hid (below_step kW_Xp.out kW_Xp.out.size hy)
        have kXn_y17 := Lib.hid (below_step kXn_Xp.out kXn_Xp.out.size hy)
        have kXp_y17 := Lib.hid (below_step kXp_Xp.out kXp_Xp.out.size hy)
        clear hy
        go_upto_region 15 with (fail)
        obtain ⟨x0, x1, x2⟩ := boxed y17 #[.int .i64 0, .int .i64 0, .slice none 0 0] #[.int .i64 0, .int .i64 0, .slice none 0 0] 24
        generalize World.setRow (World.alloc y17 _) _ _ = Xi at *
        have hli : y17.heap.size < Xi.heap.size := by omega
        have hvi : Hid (∀ z, Below Xi.heap.size Xi z → blk z y17.heap.size = some (.cells #[.int .i64 0, .int .i64 0, .slice none 0 0] 24 (0, 0))) := hide (fun z hz => (blk_below hz hli).trans (blk_of x0))
        have kXi_Xi : Hid (Below Xi.heap.size Xi Xi) := hide (Below.refl _ _)
        have kW_Xi := Lib.hid (below_step kW_y17.out kW_y17.out.size x2)
        have kXn_Xi := Lib.hid (below_step kXn_y17.out kXn_y17.out.size x2)
        have kXp_Xi := Lib.hid (below_step kXp_y17.out kXp_y17.out.size x2)
        obtain ⟨qi, hq⟩ : ∃ qi, y17.heap.size = qi := ⟨_, rfl⟩
        rw [hq] at hvi hli ⊢
        clear x0 x1 x2 hq
        have bb := hvn.out _ kXn_Xi.out
        go_wp2_with fail
        refine (l_none Xi).mono ?_
        rintro e y18 ⟨rfl, hy⟩
        have kW_y18 := Lib.hid (below_step kW_Xi.out kW_Xi.out.size hy)
        have kXn_y18 := Lib.hid (below_step kXn_Xi.out kXn_Xi.out.size hy)
        have kXp_y18 := Lib.hid (below_step kXp_Xi.out kXp_Xi.out.size hy)
        have kXi_y18 := Lib.hid (below_step kXi_Xi.out kXi_Xi.out.size hy)
        clear hy bb
        have bb := hvp.out _ kXp_y18.out
        go_wp2_with fail
        refine (l_none y18).mono ?_
        rintro e y19 ⟨rfl, hy⟩
        have kW_y19 := Lib.hid (below_step kW_y18.out kW_y18.out.size hy)
        have kXn_y19 := Lib.hid (below_step kXn_y18.out kXn_y18.out.size hy)
        have kXp_y19 := Lib.hid (below_step kXp_y18.out kXp_y18.out.size hy)
        have kXi_y19 := Lib.hid (below_step kXi_y18.out kXi_y18.out.size hy)
        clear hy bb
        have bb := hvi.out _ kXi_y19.out
        go_wp2_with fail
        refine (l_none y19).mono ?_
        rintro e y20 ⟨rfl, hy⟩
        have kW_y20 := Lib.hid (below_step kW_y19.out kW_y19.out.size hy)
        have kXn_y20 := Lib.hid (below_step kXn_y19.out kXn_y19.out.size hy)
        have kXp_y20 := Lib.hid (below_step kXp_y19.out kXp_y19.out.size hy)
        have kXi_y20 := Lib.hid (below_step kXi_y19.out kXi_y19.out.size hy)
        clear hy bb
        have hlast := Lib.hid (hfin.out _ kW_y20.out)
        go_wp2_with fail
        go_ret
        exact ⟨rfl, hlast.out⟩
      obtain ⟨R, hRe⟩ : ∃ R : Nat, a0 = R := ⟨a0.toNat, by omega⟩
      subst hRe
      have hR : R ≤ 255 := by omega
      clear ha0 hb0
      have ha1 := h1
      by_cases hb1 : 255 < a1
      · skip
        have e0 : decide (a1 < 0) = false := decide_eq_false (by omega)
        have e1 : decide (255 < a1) = true := decide_eq_true hb1
        have hbad : (R : Int) < 0 ∨ a1 < 0 ∨ 255 < (R : Int) ∨ 255 < a1 := .inr (.inr (.inr hb1))
        have hbadh := Lib.hid hbad
        clear hbad
        go_wp2_with fail
        refine (m_new_no R a1 y13 hbadh.out).mono ?_
        rintro e y14 ⟨rfl, hy⟩
        have kW_y14 := Lib.hid (below_step kW_y13.out kW_y13.out.size hy)
        clear hy
        go_upto_region 13 with (fail)
        obtain ⟨x0, x1, x2⟩ := boxed y14 #[.int .i64 0, .int .i64 0, .slice none 0 0] #[.int .i64 0, .int .i64 0, .slice none 0 0] 24
        generalize World.setRow (World.alloc y14 _) _ _ = Xn at *
        have hln : y14.heap.size < Xn.heap.size := by omega
        have hvn : Hid (∀ z, Below Xn.heap.size Xn z → blk z y14.heap.size = some (.cells #[.int .i64 0, .int .i64 0, .slice none 0 0] 24 (0, 0))) := hide (fun z hz => (blk_below hz hln).trans (blk_of x0))
        have kXn_Xn : Hid (Below Xn.heap.size Xn Xn) := hide (Below.refl _ _)
        have kW_Xn := Lib.hid (below_step kW_y14.out kW_y14.out.size x2)
        obtain ⟨qn, hq⟩ : ∃ qn, y14.heap.size = qn := ⟨_, rfl⟩
        rw [hq] at hvn hln ⊢
        clear x0 x1 x2 hq
        go_wp2_with fail
        refine (gf_new_below Xn).mono ?_
        rintro e y15 ⟨rfl, hgf, hy⟩
        clear hgf
        have kW_y15 := Lib.hid (below_step kW_Xn.out kW_Xn.out.size hy)
        have kXn_y15 := Lib.hid (below_step kXn_Xn.out kXn_Xn.out.size hy)
        clear hy
        go_wp2_with fail
        refine (m_powers_no _ R a1 y15 hbadh.out).mono ?_
        rintro e y16 ⟨rfl, hy⟩
        have kW_y16 := Lib.hid (below_step kW_y15.out kW_y15.out.size hy)
        have kXn_y16 := Lib.hid (below_step kXn_y15.out kXn_y15.out.size hy)
        clear hy
        go_upto_region 14 with (fail)
        obtain ⟨x0, x1, x2⟩ := boxed y16 #[.int .i64 0, .int .i64 0, .slice none 0 0] #[.int .i64 0, .int .i64 0, .slice none 0 0] 24
        generalize World.setRow (World.alloc y16 _) _ _ = Xp at *
        have hlp : y16.heap.size < Xp.heap.size := by omega
        have hvp : Hid (∀ z, Below Xp.heap.size Xp z → blk z y16.heap.size = some (.cells #[.int .i64 0, .int .i64 0, .slice none 0 0] 24 (0, 0))) := hide (fun z hz => (blk_below hz hlp).trans (blk_of x0))
        have kXp_Xp : Hid (Below Xp.heap.size Xp Xp) := hide (Below.refl _ _)
        have kW_Xp := Lib.hid (below_step kW_y16.out kW_y16.out.size x2)
        have kXn_Xp := Lib.hid (below_step kXn_y16.out kXn_y16.out.size x2)
        obtain ⟨qp, hq⟩ : ∃ qp, y16.heap.size = qp := ⟨_, rfl⟩
        rw [hq] at hvp hlp ⊢
        clear x0 x1 x2 hq
        go_wp2_with fail
        refine (m_identity R Xp hR).mono ?_
        rintro e y17 ⟨gi, rfl, hgi, hmi0, hy⟩
        have hmi1 := Lib.hid hmi0.mat
        have hmi2 := Lib.hid (fun z (hz : Below y17.heap.size y17 z) => hmi1.out.below hz)
        clear hmi0 hgi hmi1
        have kW_y17 := Lib.hid (below_step kW_Xp.out kW_Xp.out.size hy)
        have kXn_y17 := Lib.hid (below_step kXn_Xp.out kXn_Xp.out.size hy)
        have kXp_y17 := Lib.hid (below_step kXp_Xp.out kXp_Xp.out.size hy)
        clear hy
        have hmk0 : Hid (∀ b (D : Array Value), MAt ((World.alloc y17 b).setRow y17.heap.size D) (some ⟨gi, 0, none⟩) R R idF) := hide (fun b D => hmi2.out _ (below_setRow ((Below.refl _ _).alloc (Nat.le_refl _) _) (Nat.le_refl _) _))
        clear hmi2
        go_upto_region 15 with (fail)
        obtain ⟨x0, x1, x2⟩ := boxed y17 #[.int .i64 0, .int .i64 0, .slice none 0 0] #[.int .i64 (R : Nat), .int .i64 (R : Nat), .slice (some ⟨gi, 0, none⟩) (R * R) (R * R)] 24
        have hmx := Lib.hid (hmk0.out (.cells #[.int .i64 0, .int .i64 0, .slice none 0 0] 24) #[.int .i64 (R : Nat), .int .i64 (R : Nat), .slice (some ⟨gi, 0, none⟩) (R * R) (R * R)])
        generalize World.setRow (World.alloc y17 _) _ _ = Xi at *
        have hmi : Hid (∀ z, Below Xi.heap.size Xi z → MAt z (some ⟨gi, 0, none⟩) R R idF) := hide (fun z hz => hmx.out.below hz)
        have hli : y17.heap.size < Xi.heap.size := by omega
        have hvi : Hid (∀ z, Below Xi.heap.size Xi z → blk z y17.heap.size = some (.cells #[.int .i64 (R : Nat), .int .i64 (R : Nat), .slice (some ⟨gi, 0, none⟩) (R * R) (R * R)] 24 (0, 0))) := hide (fun z hz => (blk_below hz hli).trans (blk_of x0))
        have kXi_Xi : Hid (Below Xi.heap.size Xi Xi) := hide (Below.refl _ _)
        have kW_Xi := Lib.hid (below_step kW_y17.out kW_y17.out.size x2)
        have kXn_Xi := Lib.hid (below_step kXn_y17.out kXn_y17.out.size x2)
        have kXp_Xi := Lib.hid (below_step kXp_y17.out kXp_y17.out.size x2)
        obtain ⟨qi, hq⟩ : ∃ qi, y17.heap.size = qi := ⟨_, rfl⟩
        rw [hq] at hvi hli ⊢
        clear x0 x1 x2 hq hmx hmk0
        have bb := hvi.out _ kXi_Xi.out
        go_wp2_with fail
        refine (l_ref R R (some ⟨gi, 0, none⟩) (R * R) (R * R) Xi).mono ?_
        rintro e y18 ⟨rfl, hy⟩
        have kW_y18 := Lib.hid (below_step kW_Xi.out kW_Xi.out.size hy)
        have kXn_y18 := Lib.hid (below_step kXn_Xi.out kXn_Xi.out.size hy)
        have kXp_y18 := Lib.hid (below_step kXp_Xi.out kXp_Xi.out.size hy)
        have kXi_y18 := Lib.hid (below_step kXi_Xi.out kXi_Xi.out.size hy)
        clear hy bb
        skip
        go_wp2_with fail
        refine (x_identity R y18 hR).mono ?_
        rintro e y19 ⟨si, ci, rfl, hmJ, _, _, hy⟩
        have hmJh := Lib.hid hmJ
        clear hmJ
        have kW_y19 := Lib.hid (below_step kW_y18.out kW_y18.out.size hy)
        have kXn_y19 := Lib.hid (below_step kXn_y18.out kXn_y18.out.size hy)
        have kXp_y19 := Lib.hid (below_step kXp_y18.out kXp_y18.out.size hy)
        have kXi_y19 := Lib.hid (below_step kXi_y18.out kXi_y18.out.size hy)
        clear hy
        go_wp2_with fail
        refine (x_same R R (some ⟨gi, 0, none⟩) si (R * R) ci (R * R) (flF R idF) y19 (hmi.out _ kXi_y19.out).by hmJh.out.by (Nat.le_trans (rc_le hR hR) (by decide))).mono ?_
        rintro e y20 ⟨rfl, hy⟩
        have kW_y20 := Lib.hid (below_step kW_y19.out kW_y19.out.size hy)
        have kXn_y20 := Lib.hid (below_step kXn_y19.out kXn_y19.out.size hy)
        have kXp_y20 := Lib.hid (below_step kXp_y19.out kXp_y19.out.size hy)
        have kXi_y20 := Lib.hid (below_step kXi_y19.out kXi_y19.out.size hy)
        clear hy
        have bb := hvn.out _ kXn_y20.out
        go_wp2_with fail
        refine (l_none y20).mono ?_
        rintro e y21 ⟨rfl, hy⟩
        have kW_y21 := Lib.hid (below_step kW_y20.out kW_y20.out.size hy)
        have kXn_y21 := Lib.hid (below_step kXn_y20.out kXn_y20.out.size hy)
        have kXp_y21 := Lib.hid (below_step kXp_y20.out kXp_y20.out.size hy)
        have kXi_y21 := Lib.hid (below_step kXi_y20.out kXi_y20.out.size hy)
        clear hy bb
        have bb := hvp.out _ kXp_y21.out
        go_wp2_with fail
        refine (l_none y21).mono ?_
        rintro e y22 ⟨rfl, hy⟩
        have kW_y22 := Lib.hid (below_step kW_y21.out kW_y21.out.size hy)
        have kXn_y22 := Lib.hid (below_step kXn_y21.out kXn_y21.out.size hy)
        have kXp_y22 := Lib.hid (below_step kXp_y21.out kXp_y21.out.size hy)
        have kXi_y22 := Lib.hid (below_step kXi_y21.out kXi_y21.out.size hy)
        clear hy bb
        have hlast := Lib.hid (hfin.out _ kW_y22.out)
        go_wp2_with fail
        go_ret
        exact ⟨rfl, hlast.out⟩
      obtain ⟨C, hCe⟩ : ∃ C : Nat, a1 = C := ⟨a1.toNat, by omega⟩
      subst hCe
      have hC : C ≤ 255 := by omega
      clear ha1 hb1
      have hrc := rc_le hR hC
      have hn1 : ((R : Int) * (C : Int)) = ((R * C : Nat) : Int) := by simp
      have e3 : IntKind.i64.wrap ((R : Int) * (C : Int)) = ((R * C : Nat) : Int) := by rw [hn1]; exact IntWalk.i64_in _ (by omega)
      have hmk : ∀ x : World, (Instr.makeSlice 22 (.int .i64 ((R * C : Nat) : Int)) (.int .i64 ((R * C : Nat) : Int))).run Try.prog x = .ok (.slice (some ⟨x.heap.size, 0, none⟩) (R * C) (R * C)) (x.alloc (.cells (madeCells #[.int .u8 0] (R * C)) 5)) := fun x => make_row (P := Try.prog) Try.underlying22 info8 (R * C) (by omega) (by decide) x
      have hmrow : Hid (∀ x : World, MAt (x.alloc (.cells (madeCells #[.int .u8 0] (R * C)) 5)) (some ⟨x.heap.size, 0, none⟩) R C (fun _ _ => 0)) := hide (fun x => (MRow.of (brow_made x (R * C)) (fun _ _ _ _ => rfl)).mat)
      have kxp := Lib.hid (fun y => x_powers R C y hR hC)
      have hbyl := Lib.hid (fun (y : World) (s : Option Addr) (G : Nat → Nat → Nat) (h : MAt y s R C G) => h.by)
      have kxp2 : Hid (∀ y, Calls Try.prog 27 #[.int .i64 (R : Nat), .int .i64 (C : Nat)] y (fun e w' => ∃ s cap, e = .returned (.agg #[.int .i64 (R : Nat), .int .i64 (C : Nat), .slice s (R * C) cap]) ∧ MAt w' s R C pwF ∧ Below y.heap.size y w')) := hide (fun y => (x_powers R C y hR hC).mono (fun e w' ⟨s, cap, h1, h2, _, _, h3⟩ => ⟨s, cap, h1, h2, h3⟩))
      obtain ⟨L, hLe⟩ : ∃ L, R * C = L := ⟨_, rfl⟩
      have hL := Lib.hid hLe
      rw [hLe] at e3 hmk hmrow hrc hbyl kxp2
      have e3h := Lib.hid e3
      have hmkh := Lib.hid hmk
      have hL8 := Nat.le_trans hrc (show 65025 ≤ 100000000 by decide)
      clear hLe hn1 e3 hmk kxp
      go_wp2_with fail
      refine (m_new R C y13 hR hC).mono ?_
      rintro e y14 ⟨gn, rfl, hgi, hmi0, hy⟩
      have hmi1 := Lib.hid hmi0.mat
      have hmi2 := Lib.hid (fun z (hz : Below y14.heap.size y14 z) => hmi1.out.below hz)
      clear hmi0 hgi hmi1
      have kW_y14 := Lib.hid (below_step kW_y13.out kW_y13.out.size hy)
      clear hy
      have hmk0 : Hid (∀ b (D : Array Value), MAt ((World.alloc y14 b).setRow y14.heap.size D) (some ⟨gn, 0, none⟩) R C (fun _ _ => 0)) := hide (fun b D => hmi2.out _ (below_setRow ((Below.refl _ _).alloc (Nat.le_refl _) _) (Nat.le_refl _) _))
      clear hmi2
      rw [hL.out]
      go_upto_region 13 with (fail)
      obtain ⟨x0, x1, x2⟩ := boxed y14 #[.int .i64 0, .int .i64 0, .slice none 0 0] #[.int .i64 (R : Nat), .int .i64 (C : Nat), .slice (some ⟨gn, 0, none⟩) (L) (L)] 24
      have hmx := Lib.hid (hmk0.out (.cells #[.int .i64 0, .int .i64 0, .slice none 0 0] 24) #[.int .i64 (R : Nat), .int .i64 (C : Nat), .slice (some ⟨gn, 0, none⟩) (L) (L)])
      generalize World.setRow (World.alloc y14 _) _ _ = Xn at *
      have hmn : Hid (∀ z, Below Xn.heap.size Xn z → MAt z (some ⟨gn, 0, none⟩) R C (fun _ _ => 0)) := hide (fun z hz => hmx.out.below hz)
      have hln : y14.heap.size < Xn.heap.size := by omega
      have hvn : Hid (∀ z, Below Xn.heap.size Xn z → blk z y14.heap.size = some (.cells #[.int .i64 (R : Nat), .int .i64 (C : Nat), .slice (some ⟨gn, 0, none⟩) (L) (L)] 24 (0, 0))) := hide (fun z hz => (blk_below hz hln).trans (blk_of x0))
      have kXn_Xn : Hid (Below Xn.heap.size Xn Xn) := hide (Below.refl _ _)
      have kW_Xn := Lib.hid (below_step kW_y14.out kW_y14.out.size x2)
      obtain ⟨qn, hq⟩ : ∃ qn, y14.heap.size = qn := ⟨_, rfl⟩
      rw [hq] at hvn hln ⊢
      clear x0 x1 x2 hq hmx hmk0
      go_wp2_with fail
      refine (gf_new_below Xn).mono ?_
      rintro e y15 ⟨rfl, hgf, hy⟩
      have hgfh := Lib.hid hgf
      clear hgf
      have kW_y15 := Lib.hid (below_step kW_Xn.out kW_Xn.out.size hy)
      have kXn_y15 := Lib.hid (below_step kXn_Xn.out kXn_Xn.out.size hy)
      clear hy
      go_wp2_with fail
      refine (m_powers _ R C y15 hgfh.out hR hC).mono ?_
      rintro e y16 ⟨gp, rfl, hgi, hmi0, hy⟩
      have hmi1 := Lib.hid hmi0.mat
      have hmi2 := Lib.hid (fun z (hz : Below y16.heap.size y16 z) => hmi1.out.below hz)
      clear hmi0 hgi hmi1
      have kW_y16 := Lib.hid (below_step kW_y15.out kW_y15.out.size hy)
      have kXn_y16 := Lib.hid (below_step kXn_y15.out kXn_y15.out.size hy)
      clear hy
      have hmk0 : Hid (∀ b (D : Array Value), MAt ((World.alloc y16 b).setRow y16.heap.size D) (some ⟨gp, 0, none⟩) R C pwF) := hide (fun b D => hmi2.out _ (below_setRow ((Below.refl _ _).alloc (Nat.le_refl _) _) (Nat.le_refl _) _))
      clear hmi2
      rw [hL.out]
      go_upto_region 14 with (fail)
      obtain ⟨x0, x1, x2⟩ := boxed y16 #[.int .i64 0, .int .i64 0, .slice none 0 0] #[.int .i64 (R : Nat), .int .i64 (C : Nat), .slice (some ⟨gp, 0, none⟩) (L) (L)] 24
      have hmx := Lib.hid (hmk0.out (.cells #[.int .i64 0, .int .i64 0, .slice none 0 0] 24) #[.int .i64 (R : Nat), .int .i64 (C : Nat), .slice (some ⟨gp, 0, none⟩) (L) (L)])
      generalize World.setRow (World.alloc y16 _) _ _ = Xp at *
      have hmp : Hid (∀ z, Below Xp.heap.size Xp z → MAt z (some ⟨gp, 0, none⟩) R C pwF) := hide (fun z hz => hmx.out.below hz)
      have hlp : y16.heap.size < Xp.heap.size := by omega
      have hvp : Hid (∀ z, Below Xp.heap.size Xp z → blk z y16.heap.size = some (.cells #[.int .i64 (R : Nat), .int .i64 (C : Nat), .slice (some ⟨gp, 0, none⟩) (L) (L)] 24 (0, 0))) := hide (fun z hz => (blk_below hz hlp).trans (blk_of x0))
      have kXp_Xp : Hid (Below Xp.heap.size Xp Xp) := hide (Below.refl _ _)
      have kW_Xp := Lib.hid (below_step kW_y16.out kW_y16.out.size x2)
      have kXn_Xp := Lib.hid (below_step kXn_y16.out kXn_y16.out.size x2)
      obtain ⟨qp, hq⟩ : ∃ qp, y16.heap.size = qp := ⟨_, rfl⟩
      rw [hq] at hvp hlp ⊢
      clear x0 x1 x2 hq hmx hmk0
      go_wp2_with fail
      refine (m_identity R Xp hR).mono ?_
      rintro e y17 ⟨gi, rfl, hgi, hmi0, hy⟩
      have hmi1 := Lib.hid hmi0.mat
      have hmi2 := Lib.hid (fun z (hz : Below y17.heap.size y17 z) => hmi1.out.below hz)
      clear hmi0 hgi hmi1
      have kW_y17 := Lib.hid (below_step kW_Xp.out kW_Xp.out.size hy)
      have kXn_y17 := Lib.hid (below_step kXn_Xp.out kXn_Xp.out.size hy)
      have kXp_y17 := Lib.hid (below_step kXp_Xp.out kXp_Xp.out.size hy)
      clear hy
      have hmk0 : Hid (∀ b (D : Array Value), MAt ((World.alloc y17 b).setRow y17.heap.size D) (some ⟨gi, 0, none⟩) R R idF) := hide (fun b D => hmi2.out _ (below_setRow ((Below.refl _ _).alloc (Nat.le_refl _) _) (Nat.le_refl _) _))
      clear hmi2
      go_upto_region 15 with (fail)
      obtain ⟨x0, x1, x2⟩ := boxed y17 #[.int .i64 0, .int .i64 0, .slice none 0 0] #[.int .i64 (R : Nat), .int .i64 (R : Nat), .slice (some ⟨gi, 0, none⟩) (R * R) (R * R)] 24
      have hmx := Lib.hid (hmk0.out (.cells #[.int .i64 0, .int .i64 0, .slice none 0 0] 24) #[.int .i64 (R : Nat), .int .i64 (R : Nat), .slice (some ⟨gi, 0, none⟩) (R * R) (R * R)])
      generalize World.setRow (World.alloc y17 _) _ _ = Xi at *
      have hmi : Hid (∀ z, Below Xi.heap.size Xi z → MAt z (some ⟨gi, 0, none⟩) R R idF) := hide (fun z hz => hmx.out.below hz)
      have hli : y17.heap.size < Xi.heap.size := by omega
      have hvi : Hid (∀ z, Below Xi.heap.size Xi z → blk z y17.heap.size = some (.cells #[.int .i64 (R : Nat), .int .i64 (R : Nat), .slice (some ⟨gi, 0, none⟩) (R * R) (R * R)] 24 (0, 0))) := hide (fun z hz => (blk_below hz hli).trans (blk_of x0))
      have kXi_Xi : Hid (Below Xi.heap.size Xi Xi) := hide (Below.refl _ _)
      have kW_Xi := Lib.hid (below_step kW_y17.out kW_y17.out.size x2)
      have kXn_Xi := Lib.hid (below_step kXn_y17.out kXn_y17.out.size x2)
      have kXp_Xi := Lib.hid (below_step kXp_y17.out kXp_y17.out.size x2)
      obtain ⟨qi, hq⟩ : ∃ qi, y17.heap.size = qi := ⟨_, rfl⟩
      rw [hq] at hvi hli ⊢
      clear x0 x1 x2 hq hmx hmk0
      have bb := hvi.out _ kXi_Xi.out
      go_wp2_with fail
      refine (l_ref R R (some ⟨gi, 0, none⟩) (R * R) (R * R) Xi).mono ?_
      rintro e y18 ⟨rfl, hy⟩
      have kW_y18 := Lib.hid (below_step kW_Xi.out kW_Xi.out.size hy)
      have kXn_y18 := Lib.hid (below_step kXn_Xi.out kXn_Xi.out.size hy)
      have kXp_y18 := Lib.hid (below_step kXp_Xi.out kXp_Xi.out.size hy)
      have kXi_y18 := Lib.hid (below_step kXi_Xi.out kXi_Xi.out.size hy)
      clear hy bb
      skip
      go_wp2_with fail
      refine (x_identity R y18 hR).mono ?_
      rintro e y19 ⟨si, ci, rfl, hmJ, _, _, hy⟩
      have hmJh := Lib.hid hmJ
      clear hmJ
      have kW_y19 := Lib.hid (below_step kW_y18.out kW_y18.out.size hy)
      have kXn_y19 := Lib.hid (below_step kXn_y18.out kXn_y18.out.size hy)
      have kXp_y19 := Lib.hid (below_step kXp_y18.out kXp_y18.out.size hy)
      have kXi_y19 := Lib.hid (below_step kXi_y18.out kXi_y18.out.size hy)
      clear hy
      go_wp2_with fail
      refine (x_same R R (some ⟨gi, 0, none⟩) si (R * R) ci (R * R) (flF R idF) y19 (hmi.out _ kXi_y19.out).by hmJh.out.by (Nat.le_trans (rc_le hR hR) (by decide))).mono ?_
      rintro e y20 ⟨rfl, hy⟩
      have kW_y20 := Lib.hid (below_step kW_y19.out kW_y19.out.size hy)
      have kXn_y20 := Lib.hid (below_step kXn_y19.out kXn_y19.out.size hy)
      have kXp_y20 := Lib.hid (below_step kXp_y19.out kXp_y19.out.size hy)
      have kXi_y20 := Lib.hid (below_step kXi_y19.out kXi_y19.out.size hy)
      clear hy
      go_upto_region 21 with (fail)
      go_cut [165] (fun v wx => v = .bool false ∧ Below y20.heap.size y20 wx)
      case first =>
        have hS9 : Hid (∀ z, Below y20.heap.size y20 z → (fun y : World => blk y qn = some (.cells #[.int .i64 (R : Nat), .int .i64 (C : Nat), .slice (some ⟨gn, 0, none⟩) L L] 24 (0, 0))) z) := hide (fun z hz => hvn.out z (below_step kXn_y20.out kXn_y20.out.size hz))
        have hm9 : Hid (∀ z, Below y20.heap.size y20 z → MAt z (some ⟨gn, 0, none⟩) R C (fun _ _ => 0)) := hide (fun z hz => hmn.out z (below_step kXn_y20.out kXn_y20.out.size hz))
        have hBd : Hid (Below y20.heap.size y20 y20.drew) := hide (below_drewN (Below.refl _ _) 1)
        have e3 := e3h.out
        refine h_begin 19 (fun y : World => blk y qn = some (.cells #[.int .i64 (R : Nat), .int .i64 (C : Nat), .slice (some ⟨gn, 0, none⟩) L L] 24 (0, 0))) rfl (by kernel_rfl) (hS9.out _ hBd.out) ?_
        have hHeld : (fun y : World => blk y qn = some (.cells #[.int .i64 (R : Nat), .int .i64 (C : Nat), .slice (some ⟨gn, 0, none⟩) L L] 24 (0, 0))) y20.drew := hS9.out _ hBd.out
        first
          | (refine h_run (i := 0) (v := ?_) hHeld rfl (by kernel_rfl) (by kernel_rfl) (by kernel_rfl) ?_ ?_ ?_
             rotate_left
             · rfl
             · (intro x hSx; (try dsimp only at hSx); go_simp <;> with_reducible rfl)
             simp only [Act.put, List.setIfInBounds_toArray, List.set_cons_zero, List.set_cons_succ])
          | (refine h_skip (i := 0) hHeld rfl (by kernel_rfl) (by kernel_rfl) (by kernel_rfl) ?_ ?_
             · rfl
             simp only [Act.put, List.setIfInBounds_toArray, List.set_cons_zero, List.set_cons_succ])
        first
          | (refine h_run (i := 1) (v := ?_) hHeld rfl (by kernel_rfl) (by kernel_rfl) (by kernel_rfl) ?_ ?_ ?_
             rotate_left
             · rfl
             · (intro x hSx; (try dsimp only at hSx); go_simp <;> with_reducible rfl)
             simp only [Act.put, List.setIfInBounds_toArray, List.set_cons_zero, List.set_cons_succ])
          | (refine h_skip (i := 1) hHeld rfl (by kernel_rfl) (by kernel_rfl) (by kernel_rfl) ?_ ?_
             · rfl
             simp only [Act.put, List.setIfInBounds_toArray, List.set_cons_zero, List.set_cons_succ])
        first
          | (refine h_run (i := 2) (v := ?_) hHeld rfl (by kernel_rfl) (by kernel_rfl) (by kernel_rfl) ?_ ?_ ?_
             rotate_left
             · rfl
             · (intro x hSx; (try dsimp only at hSx); go_simp <;> with_reducible rfl)
             simp only [Act.put, List.setIfInBounds_toArray, List.set_cons_zero, List.set_cons_succ])
          | (refine h_skip (i := 2) hHeld rfl (by kernel_rfl) (by kernel_rfl) (by kernel_rfl) ?_ ?_
             · rfl
             simp only [Act.put, List.setIfInBounds_toArray, List.set_cons_zero, List.set_cons_succ])
        first
          | (refine h_run (i := 3) (v := ?_) hHeld rfl (by kernel_rfl) (by kernel_rfl) (by kernel_rfl) ?_ ?_ ?_
             rotate_left
             · rfl
             · (intro x hSx; (try dsimp only at hSx); go_simp <;> with_reducible rfl)
             simp only [Act.put, List.setIfInBounds_toArray, List.set_cons_zero, List.set_cons_succ])
          | (refine h_skip (i := 3) hHeld rfl (by kernel_rfl) (by kernel_rfl) (by kernel_rfl) ?_ ?_
             · rfl
             simp only [Act.put, List.setIfInBounds_toArray, List.set_cons_zero, List.set_cons_succ])
        first
          | (refine h_run (i := 4) (v := ?_) hHeld rfl (by kernel_rfl) (by kernel_rfl) (by kernel_rfl) ?_ ?_ ?_
             rotate_left
             · rfl
             · (intro x hSx; (try dsimp only at hSx); go_simp <;> with_reducible rfl)
             simp only [Act.put, List.setIfInBounds_toArray, List.set_cons_zero, List.set_cons_succ])
          | (refine h_skip (i := 4) hHeld rfl (by kernel_rfl) (by kernel_rfl) (by kernel_rfl) ?_ ?_
             · rfl
             simp only [Act.put, List.setIfInBounds_toArray, List.set_cons_zero, List.set_cons_succ])
        first
          | (refine h_run (i := 5) (v := ?_) hHeld rfl (by kernel_rfl) (by kernel_rfl) (by kernel_rfl) ?_ ?_ ?_
             rotate_left
             · rfl
             · (intro x hSx; (try dsimp only at hSx); go_simp <;> with_reducible rfl)
             simp only [Act.put, List.setIfInBounds_toArray, List.set_cons_zero, List.set_cons_succ])
          | (refine h_skip (i := 5) hHeld rfl (by kernel_rfl) (by kernel_rfl) (by kernel_rfl) ?_ ?_
             · rfl
             simp only [Act.put, List.setIfInBounds_toArray, List.set_cons_zero, List.set_cons_succ])
        first
          | (refine h_run (i := 6) (v := ?_) hHeld rfl (by kernel_rfl) (by kernel_rfl) (by kernel_rfl) ?_ ?_ ?_
             rotate_left
             · rfl
             · (intro x hSx; (try dsimp only at hSx); go_simp <;> with_reducible rfl)
             simp only [Act.put, List.setIfInBounds_toArray, List.set_cons_zero, List.set_cons_succ])
          | (refine h_skip (i := 6) hHeld rfl (by kernel_rfl) (by kernel_rfl) (by kernel_rfl) ?_ ?_
             · rfl
             simp only [Act.put, List.setIfInBounds_toArray, List.set_cons_zero, List.set_cons_succ])
        first
          | (refine h_run (i := 7) (v := ?_) hHeld rfl (by kernel_rfl) (by kernel_rfl) (by kernel_rfl) ?_ ?_ ?_
             rotate_left
             · rfl
             · (intro x hSx; (try dsimp only at hSx); go_simp <;> with_reducible rfl)
             simp only [Act.put, List.setIfInBounds_toArray, List.set_cons_zero, List.set_cons_succ])
          | (refine h_skip (i := 7) hHeld rfl (by kernel_rfl) (by kernel_rfl) (by kernel_rfl) ?_ ?_
             · rfl
             simp only [Act.put, List.setIfInBounds_toArray, List.set_cons_zero, List.set_cons_succ])
        first
          | (refine h_run (i := 9) (v := ?_) hHeld rfl (by kernel_rfl) (by kernel_rfl) (by kernel_rfl) ?_ ?_ ?_
             rotate_left
             · rfl
             · (intro x hSx; (try dsimp only at hSx); go_simp <;> with_reducible rfl)
             simp only [Act.put, List.setIfInBounds_toArray, List.set_cons_zero, List.set_cons_succ])
          | (refine h_skip (i := 9) hHeld rfl (by kernel_rfl) (by kernel_rfl) (by kernel_rfl) ?_ ?_
             · rfl
             simp only [Act.put, List.setIfInBounds_toArray, List.set_cons_zero, List.set_cons_succ])
        first
          | (refine h_run (i := 10) (v := ?_) hHeld rfl (by kernel_rfl) (by kernel_rfl) (by kernel_rfl) ?_ ?_ ?_
             rotate_left
             · rfl
             · (intro x hSx; (try dsimp only at hSx); go_simp <;> with_reducible rfl)
             simp only [Act.put, List.setIfInBounds_toArray, List.set_cons_zero, List.set_cons_succ])
          | (refine h_skip (i := 10) hHeld rfl (by kernel_rfl) (by kernel_rfl) (by kernel_rfl) ?_ ?_
             · rfl
             simp only [Act.put, List.setIfInBounds_toArray, List.set_cons_zero, List.set_cons_succ])
        first
          | (refine h_run (i := 11) (v := ?_) hHeld rfl (by kernel_rfl) (by kernel_rfl) (by kernel_rfl) ?_ ?_ ?_
             rotate_left
             · rfl
             · (intro x hSx; (try dsimp only at hSx); go_simp <;> with_reducible rfl)
             simp only [Act.put, List.setIfInBounds_toArray, List.set_cons_zero, List.set_cons_succ])
          | (refine h_skip (i := 11) hHeld rfl (by kernel_rfl) (by kernel_rfl) (by kernel_rfl) ?_ ?_
             · rfl
             simp only [Act.put, List.setIfInBounds_toArray, List.set_cons_zero, List.set_cons_succ])
        first
          | (refine h_run (i := 12) (v := ?_) hHeld rfl (by kernel_rfl) (by kernel_rfl) (by kernel_rfl) ?_ ?_ ?_
             rotate_left
             · rfl
             · (intro x hSx; (try dsimp only at hSx); go_simp <;> with_reducible rfl)
             simp only [Act.put, List.setIfInBounds_toArray, List.set_cons_zero, List.set_cons_succ])
          | (refine h_skip (i := 12) hHeld rfl (by kernel_rfl) (by kernel_rfl) (by kernel_rfl) ?_ ?_
             · rfl
             simp only [Act.put, List.setIfInBounds_toArray, List.set_cons_zero, List.set_cons_succ])
        first
          | (refine h_run (i := 13) (v := ?_) hHeld rfl (by kernel_rfl) (by kernel_rfl) (by kernel_rfl) ?_ ?_ ?_
             rotate_left
             · rfl
             · (intro x hSx; (try dsimp only at hSx); go_simp <;> with_reducible rfl)
             simp only [Act.put, List.setIfInBounds_toArray, List.set_cons_zero, List.set_cons_succ])
          | (refine h_skip (i := 13) hHeld rfl (by kernel_rfl) (by kernel_rfl) (by kernel_rfl) ?_ ?_
             · rfl
             simp only [Act.put, List.setIfInBounds_toArray, List.set_cons_zero, List.set_cons_succ])
        clear hHeld e3
        have hmk := hmkh.out
        generalize y20.drew = z at *
        have hWd : y20.heap.size ≤ z.heap.size := hBd.out.size
        have hal : Below y20.heap.size y20 (z.alloc (.cells (madeCells #[.int .u8 0] L) 5)) := hBd.out.alloc hWd _
        refine h_pairN (i := 14) (j := 8) (v := .slice (some ⟨z.heap.size, 0, none⟩) L L) (w1 := z.alloc (.cells (madeCells #[.int .u8 0] L) 5)) (l_ref R C (some ⟨gn, 0, none⟩) L L z) rfl rfl (by kernel_rfl) rfl rfl ?_ ?_ (hS9.out _ hal) ?_ ?_
        · go_simp <;> with_reducible rfl
        · go_simp <;> with_reducible rfl
        · have hmz := Lib.hid (hmrow.out z)
          have halh := Lib.hid hal
          clear hal hmk
          generalize z.alloc (.cells (madeCells #[.int .u8 0] L) 5) = z1 at *
          have hHeld : (fun y : World => blk y qn = some (.cells #[.int .i64 (R : Nat), .int .i64 (C : Nat), .slice (some ⟨gn, 0, none⟩) L L] 24 (0, 0))) z1 := hS9.out _ halh.out
          first
            | (refine h_run (i := 15) (v := ?_) hHeld rfl (by kernel_rfl) (by kernel_rfl) (by kernel_rfl) ?_ ?_ ?_
               rotate_left
               · rfl
               · (intro x hSx; (try dsimp only at hSx); go_simp <;> with_reducible rfl)
               simp only [Act.put, List.setIfInBounds_toArray, List.set_cons_zero, List.set_cons_succ])
            | (refine h_skip (i := 15) hHeld rfl (by kernel_rfl) (by kernel_rfl) (by kernel_rfl) ?_ ?_
               · rfl
               simp only [Act.put, List.setIfInBounds_toArray, List.set_cons_zero, List.set_cons_succ])
          clear hHeld
          refine h_call (i := 8) (fun y : World => blk y qn = some (.cells #[.int .i64 (R : Nat), .int .i64 (C : Nat), .slice (some ⟨gn, 0, none⟩) L L] 24 (0, 0))) (fun _ h => h) (l_ref R C (some ⟨gn, 0, none⟩) L L z1) rfl (by kernel_rfl) rfl ?_ ?_
          · go_simp <;> with_reducible rfl
          rintro e z2 ⟨rfl, hy⟩
          have hz2 := Lib.hid (below_step halh.out halh.out.size hy)
          have hmz2 := Lib.hid (hmz.out.below hy)
          refine ⟨_, rfl, hS9.out _ hz2.out, ?_⟩
          clear hy
          refine h_call (i := 16) (fun y : World => blk y qn = some (.cells #[.int .i64 (R : Nat), .int .i64 (C : Nat), .slice (some ⟨gn, 0, none⟩) L L] 24 (0, 0))) (fun _ h => h) (x_same R C (some ⟨gn, 0, none⟩) (some ⟨z.heap.size, 0, none⟩) L L L (flF C (fun _ _ => 0)) z2 (hbyl.out _ _ _ (hm9.out _ hz2.out)) (hbyl.out _ _ _ hmz2.out) hL8) rfl (by kernel_rfl) rfl ?_ ?_
          · go_simp <;> with_reducible rfl
          rintro e z3 ⟨rfl, hy⟩
          have hz3 := Lib.hid (below_step hz2.out hz2.out.size hy)
          refine ⟨_, rfl, hS9.out _ hz3.out, ?_⟩
          clear hy
          have hHeld : (fun y : World => blk y qn = some (.cells #[.int .i64 (R : Nat), .int .i64 (C : Nat), .slice (some ⟨gn, 0, none⟩) L L] 24 (0, 0))) z3 := hS9.out _ hz3.out
          first
            | (refine h_run (i := 17) (v := ?_) hHeld rfl (by kernel_rfl) (by kernel_rfl) (by kernel_rfl) ?_ ?_ ?_
               rotate_left
               · rfl
               · (intro x hSx; (try dsimp only at hSx); go_simp <;> with_reducible rfl)
               simp only [Act.put, List.setIfInBounds_toArray, List.set_cons_zero, List.set_cons_succ])
            | (refine h_skip (i := 17) hHeld rfl (by kernel_rfl) (by kernel_rfl) (by kernel_rfl) ?_ ?_
               · rfl
               simp only [Act.put, List.setIfInBounds_toArray, List.set_cons_zero, List.set_cons_succ])
          first
            | (refine h_run (i := 18) (v := ?_) hHeld rfl (by kernel_rfl) (by kernel_rfl) (by kernel_rfl) ?_ ?_ ?_
               rotate_left
               · rfl
               · (intro x hSx; (try dsimp only at hSx); go_simp <;> with_reducible rfl)
               simp only [Act.put, List.setIfInBounds_toArray, List.set_cons_zero, List.set_cons_succ])
            | (refine h_skip (i := 18) hHeld rfl (by kernel_rfl) (by kernel_rfl) (by kernel_rfl) ?_ ?_
               · rfl
               simp only [Act.put, List.setIfInBounds_toArray, List.set_cons_zero, List.set_cons_succ])
          clear hHeld
          refine h_done (by kernel_rfl) ?_
          go_wp2_with fail
          go_meet
          exact ⟨rfl, hz3.out⟩
        · rintro e z1 ⟨rfl, hy⟩
          have hz1 := Lib.hid (below_step hBd.out hBd.out.size hy)
          refine ⟨_, rfl, hS9.out _ hz1.out, ?_⟩
          clear hy hal
          have hal : Below y20.heap.size y20 (z1.alloc (.cells (madeCells #[.int .u8 0] L) 5)) := hz1.out.alloc hz1.out.size _
          have hHeld : (fun y : World => blk y qn = some (.cells #[.int .i64 (R : Nat), .int .i64 (C : Nat), .slice (some ⟨gn, 0, none⟩) L L] 24 (0, 0))) z1 := hS9.out _ hz1.out
          refine h_value (i := 14) (v := .slice (some ⟨z1.heap.size, 0, none⟩) L L) (w' := z1.alloc (.cells (madeCells #[.int .u8 0] L) 5)) (fun y : World => blk y qn = some (.cells #[.int .i64 (R : Nat), .int .i64 (C : Nat), .slice (some ⟨gn, 0, none⟩) L L] 24 (0, 0))) (fun _ h => h) rfl (by kernel_rfl) rfl ?_ (hS9.out _ hal) ?_
          · go_simp <;> with_reducible rfl
          have hmz := Lib.hid (hmrow.out z1)
          have halh := Lib.hid hal
          clear hal hmk hHeld
          generalize z1.alloc (.cells (madeCells #[.int .u8 0] L) 5) = z2 at *
          have hHeld : (fun y : World => blk y qn = some (.cells #[.int .i64 (R : Nat), .int .i64 (C : Nat), .slice (some ⟨gn, 0, none⟩) L L] 24 (0, 0))) z2 := hS9.out _ halh.out
          first
            | (refine h_run (i := 15) (v := ?_) hHeld rfl (by kernel_rfl) (by kernel_rfl) (by kernel_rfl) ?_ ?_ ?_
               rotate_left
               · rfl
               · (intro x hSx; (try dsimp only at hSx); go_simp <;> with_reducible rfl)
               simp only [Act.put, List.setIfInBounds_toArray, List.set_cons_zero, List.set_cons_succ])
            | (refine h_skip (i := 15) hHeld rfl (by kernel_rfl) (by kernel_rfl) (by kernel_rfl) ?_ ?_
               · rfl
               simp only [Act.put, List.setIfInBounds_toArray, List.set_cons_zero, List.set_cons_succ])
          clear hHeld
          refine h_call (i := 16) (fun y : World => blk y qn = some (.cells #[.int .i64 (R : Nat), .int .i64 (C : Nat), .slice (some ⟨gn, 0, none⟩) L L] 24 (0, 0))) (fun _ h => h) (x_same R C (some ⟨gn, 0, none⟩) (some ⟨z1.heap.size, 0, none⟩) L L L (flF C (fun _ _ => 0)) z2 (hbyl.out _ _ _ (hm9.out _ halh.out)) (hbyl.out _ _ _ hmz.out) hL8) rfl (by kernel_rfl) rfl ?_ ?_
          · go_simp <;> with_reducible rfl
          rintro e z3 ⟨rfl, hy⟩
          have hz3 := Lib.hid (below_step halh.out halh.out.size hy)
          refine ⟨_, rfl, hS9.out _ hz3.out, ?_⟩
          clear hy
          have hHeld : (fun y : World => blk y qn = some (.cells #[.int .i64 (R : Nat), .int .i64 (C : Nat), .slice (some ⟨gn, 0, none⟩) L L] 24 (0, 0))) z3 := hS9.out _ hz3.out
          first
            | (refine h_run (i := 17) (v := ?_) hHeld rfl (by kernel_rfl) (by kernel_rfl) (by kernel_rfl) ?_ ?_ ?_
               rotate_left
               · rfl
               · (intro x hSx; (try dsimp only at hSx); go_simp <;> with_reducible rfl)
               simp only [Act.put, List.setIfInBounds_toArray, List.set_cons_zero, List.set_cons_succ])
            | (refine h_skip (i := 17) hHeld rfl (by kernel_rfl) (by kernel_rfl) (by kernel_rfl) ?_ ?_
               · rfl
               simp only [Act.put, List.setIfInBounds_toArray, List.set_cons_zero, List.set_cons_succ])
          first
            | (refine h_run (i := 18) (v := ?_) hHeld rfl (by kernel_rfl) (by kernel_rfl) (by kernel_rfl) ?_ ?_ ?_
               rotate_left
               · rfl
               · (intro x hSx; (try dsimp only at hSx); go_simp <;> with_reducible rfl)
               simp only [Act.put, List.setIfInBounds_toArray, List.set_cons_zero, List.set_cons_succ])
            | (refine h_skip (i := 18) hHeld rfl (by kernel_rfl) (by kernel_rfl) (by kernel_rfl) ?_ ?_
               · rfl
               simp only [Act.put, List.setIfInBounds_toArray, List.set_cons_zero, List.set_cons_succ])
          clear hHeld
          refine h_done (by kernel_rfl) ?_
          go_wp2_with fail
          go_meet
          exact ⟨rfl, hz3.out⟩
      case rest =>
        obtain ⟨rfl, hy⟩ := hcut
        have kW_wc := Lib.hid (below_step kW_y20.out kW_y20.out.size hy)
        have kXn_wc := Lib.hid (below_step kXn_y20.out kXn_y20.out.size hy)
        have kXp_wc := Lib.hid (below_step kXp_y20.out kXp_y20.out.size hy)
        have kXi_wc := Lib.hid (below_step kXi_y20.out kXi_y20.out.size hy)
        clear hy
        have e3 := e3h.out
        by_cases h4 : 400 < L
        · have g3 : decide ((400 : Int) < (L : Int)) = true := decide_eq_true (by omega)
          have g4 : decide (400 < L) = true := decide_eq_true h4
          have hlast := Lib.hid (hfin.out _ kW_wc.out)
          go_wp2_with fail
          go_ret
          exact ⟨rfl, hlast.out⟩
        · have g3 : decide ((400 : Int) < (L : Int)) = false := decide_eq_false (by omega)
          have g4 : decide (400 < L) = false := decide_eq_false h4
          have bb := hvp.out _ kXp_wc.out
          go_wp2_with fail
          refine (l_ref R C (some ⟨gp, 0, none⟩) L L wc).mono ?_
          rintro e y21 ⟨rfl, hy⟩
          have kW_y21 := Lib.hid (below_step kW_wc.out kW_wc.out.size hy)
          have kXn_y21 := Lib.hid (below_step kXn_wc.out kXn_wc.out.size hy)
          have kXp_y21 := Lib.hid (below_step kXp_wc.out kXp_wc.out.size hy)
          have kXi_y21 := Lib.hid (below_step kXi_wc.out kXi_wc.out.size hy)
          clear hy bb
          go_wp2_with fail
          refine (kxp2.out y21).mono ?_
          rintro e y22 ⟨sp, cp, rfl, hmP, hy⟩
          have hmPh := Lib.hid hmP
          clear hmP
          have kW_y22 := Lib.hid (below_step kW_y21.out kW_y21.out.size hy)
          have kXn_y22 := Lib.hid (below_step kXn_y21.out kXn_y21.out.size hy)
          have kXp_y22 := Lib.hid (below_step kXp_y21.out kXp_y21.out.size hy)
          have kXi_y22 := Lib.hid (below_step kXi_y21.out kXi_y21.out.size hy)
          clear hy
          go_wp2_with fail
          refine (x_same R C (some ⟨gp, 0, none⟩) sp L cp L (flF C pwF) y22 (hbyl.out _ _ _ (hmp.out _ kXp_y22.out)) (hbyl.out _ _ _ hmPh.out) hL8).mono ?_
          rintro e y23 ⟨rfl, hy⟩
          have kW_y23 := Lib.hid (below_step kW_y22.out kW_y22.out.size hy)
          have kXn_y23 := Lib.hid (below_step kXn_y22.out kXn_y22.out.size hy)
          have kXp_y23 := Lib.hid (below_step kXp_y22.out kXp_y22.out.size hy)
          have kXi_y23 := Lib.hid (below_step kXi_y22.out kXi_y22.out.size hy)
          clear hy
          have hlast := Lib.hid (hfin.out _ kW_y23.out)
          go_wp2_with fail
          go_ret
          exact ⟨rfl, hlast.out⟩
end Go.Proofs.Ytkcalgolanpjaaa
