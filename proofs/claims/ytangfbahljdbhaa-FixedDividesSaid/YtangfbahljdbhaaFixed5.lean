/- The contract of the document's Above of layer 22. Conditions: the arguments are int64s. -/
import Derived.Test.YtangfbahljdbhaaRSub
import Derived.Test.YtangfbahljdbhaaFixed3
import Derived.Test.YtangfbahljdbhaaWhole
import Derived.Test.YtangfbahljdbhaaRead
namespace Go.Proofs.Ytangfbahljdbhaa
open Go.RowKit
theorem wd_info : (Try.prog.info? 40).map (·.size) = some 10 := by kernel_rfl
theorem ld_w0 (v : Value) : Instr.loadAt 40 v = wLoad 40 v := rfl
theorem ld_w (w : World) (b : Nat) : (wLoad 40 (.pointer (some ⟨b, 0, none⟩))).run Try.prog w = loadAns 10 w (blk w b) (wLoadRes Try.prog 40 b w) := run_wLoad Try.underlying40 rfl wd_info w b
theorem sto_w0 (p x : Value) : Instr.storeAt 40 p x = wStore 40 p x := rfl
theorem sto_w (w : World) (b : Nat) (C : Array Value) : (wStore 40 (.pointer (some ⟨b, 0, none⟩)) (.agg C)).run Try.prog w = storeAns 10 w b C (blk w b) (wStoreRes Try.prog 40 b C w) := run_wStore wd_info w b C
theorem wide_plain (m : Bool) (d : Nat → Nat) : Plain (wideA m d) := by unfold Plain; exact wideA_one m d
theorem wide_size2 (m : Bool) (d : Nat → Nat) : (wideA m d).size = 10 := by unfold wideA; rfl
/-- nothing in the lowest nine digits: nothing at all -/
theorem dg_none (v : Nat) (hv : v < 65536 ^ 9) (h : ∀ i, i < 9 → dg v i = 0) : v = 0 := by
  have h0 := h 0 (by omega)
  have h1 := h 1 (by omega)
  have h2 := h 2 (by omega)
  have h3 := h 3 (by omega)
  have h4 := h 4 (by omega)
  have h5 := h 5 (by omega)
  have h6 := h 6 (by omega)
  have h7 := h 7 (by omega)
  have h8 := h 8 (by omega)
  unfold dg at h0 h1 h2 h3 h4 h5 h6 h7 h8
  simp at h0 h1 h2 h3 h4 h5 h6 h7 h8 hv
  omega
theorem dg_some (v i : Nat) (h : 0 < dg v i) : 0 < v := by
  rcases Nat.eq_zero_or_pos v with h0 | h0
  · subst h0; unfold dg at h; simp at h
  · exact h0
theorem lt_alloc (w : World) (o : Obj) : w.heap.size < (w.alloc o).heap.size := by show _ < (w.heap.push _).size; rw [Array.size_push]; omega
theorem lt_alloc_of {w : World} {o : Obj} {b : Nat} (h : b < w.heap.size) : b < (w.alloc o).heap.size := Nat.lt_trans h (lt_alloc w o)
theorem lt_alloc_of' {w : World} {o : Obj} {b : Nat} (h : b ≤ w.heap.size) : b < (w.alloc o).heap.size := Nat.lt_of_le_of_lt h (lt_alloc w o)
theorem below_blk {W W' : World} (h : Below W.heap.size W W') (b : Nat) : (b < W.heap.size) = True → blk W' b = blk W b := fun hb => blk_below h (of_eq_true hb)
theorem below_sz {W W' : World} (h : Below W.heap.size W W') (b : Nat) : (b < W.heap.size) = True → (b < W'.heap.size) = True := fun hb => eq_true (Nat.lt_of_lt_of_le (of_eq_true hb) h.size)
theorem below_ne {W W' : World} (h : Below W.heap.size W W') (b : Nat) : (b < W.heap.size) = True → (b = W'.heap.size) = False := fun hb => eq_false (fun e => by have := Nat.lt_of_lt_of_le (of_eq_true hb) h.size; omega)
theorem size_alloc_lt (w : World) (o : Obj) (b : Nat) : (b < (w.alloc o).heap.size) = (b < w.heap.size + 1) := by show (b < (w.heap.push o).size) = _; rw [Array.size_push]
attribute [local irreducible] satZ wideA dg
attribute [local irreducible] blk wLoad wLoadRes loadAns wStore wStoreRes storeAns Plain
attribute [local go_sem ↓] ld_w0 sto_w0
attribute [local go_sem] ld_w sto_w loadAns_some storeAns_some wide_plain wide_size2 blk_alloc_if blk_setRow_if blk_drew_at blk_drewN_at rowPut_some size_alloc_lt
set_option maxRecDepth 100000 in
set_option maxHeartbeats 2000000 in
theorem rf_above (a b c d : Int) (w : World) (ha : I64 a) (hb : I64 b) (hc : I64 c) (hd : I64 d) :
    Calls Try.prog 10 #[.int .i64 a, .int .i64 b, .int .i64 c, .int .i64 d] w fun e w' => e = .returned (.bool (decide (c * d < a * b))) ∧ Below w.heap.size w w' := by
  have la := hide (abs_lt4 a ha)
  have lb := hide (abs_lt4 b hb)
  have lc := hide (abs_lt4 c hc)
  have ld := hide (abs_lt4 d hd)
  have hp1 := hide (prod_lt _ _ la.out lb.out)
  have hp2 := hide (prod_lt _ _ lc.out ld.out)
  have hz1 := hide (zv_prod a b)
  have hz2 := hide (zv_prod c d)
  have hra := Lib.hid (fun X => r_of a X ha)
  have hrb := Lib.hid (fun X => r_of b X hb)
  have hrc := Lib.hid (fun X => r_of c X hc)
  have hrd := Lib.hid (fun X => r_of d X hd)
  have ht1 := Lib.hid (fun X => r_times (decide (a < 0)) (decide (b < 0)) a.natAbs b.natAbs X la.out lb.out)
  have ht2 := Lib.hid (fun X => r_times (decide (c < 0)) (decide (d < 0)) c.natAbs d.natAbs X lc.out ld.out)
  have hzw := zeroWide
  generalize hA : a.natAbs * b.natAbs = A at *
  generalize hC : c.natAbs * d.natAbs = C at *
  generalize (decide (a < 0) != decide (b < 0)) = ma at *
  generalize (decide (c < 0) != decide (d < 0)) = mc at *
  clear ha hb hc hd hA hC
  go_enter Try.func10, Try.ntmps10
  go_wp2_with fail
  refine (hra.out _).mono ?_
  rintro e w1 ⟨rfl, hB1⟩
  go_wp2_with fail
  refine (hrb.out _).mono ?_
  rintro e w2 ⟨rfl, hB2⟩
  go_wp2_with fail
  refine (ht1.out _).mono ?_
  rintro e w3 ⟨rfl, hB3⟩
  have hB := hB1.trans ((hB2.mono hB1.size).trans (hB3.mono (Nat.le_trans hB1.size hB2.size)))
  clear hB1 hB2 hB3 hra hrb ht1 la lb
  go_upto_region 2 with (fail)
  have v9 : blk ((w3.alloc (.cells (wideA false (fun _ => 0)) 40)).setRow w3.heap.size (wideA ma (dg A))) w3.heap.size = some (.cells (wideA ma (dg A)) 40 (0, 0)) := blk_of (setRow_heap _ _ _ _ _ _ (last_block0 w3 _ _ rfl))
  have vB : Below w.heap.size w ((w3.alloc (.cells (wideA false (fun _ => 0)) 40)).setRow w3.heap.size (wideA ma (dg A))) := below_setRow (hB.alloc hB.size _) hB.size _
  generalize World.setRow _ _ _ = V at v9 vB ⊢
  have hw3 := hB.size
  clear hB
  generalize w3.heap.size = p9 at *
  have l9 := blk_lt v9
  go_wp2_with fail
  refine (hrc.out _).mono ?_
  rintro e w4 ⟨rfl, hB4⟩
  go_wp2_with fail
  refine (hrd.out _).mono ?_
  rintro e w5 ⟨rfl, hB5⟩
  go_wp2_with fail
  refine (ht2.out _).mono ?_
  rintro e w6 ⟨rfl, hB6⟩
  have hBB := hB4.trans ((hB5.mono hB4.size).trans (hB6.mono (Nat.le_trans hB4.size hB5.size)))
  have u9 := (blk_below hBB l9).trans v9
  have uB := vB.trans (hBB.mono vB.size)
  have us := hBB.size
  clear hB4 hB5 hB6 hBB hrc hrd ht2 lc ld v9 vB
  go_upto_region 3 with (fail)
  have x9 : blk ((w6.alloc (.cells (wideA false (fun _ => 0)) 40)).setRow w6.heap.size (wideA mc (dg C))) p9 = some (.cells (wideA ma (dg A)) 40 (0, 0)) := blk_of ((setRow_other _ _ _ _ (by omega)).trans (blk_alloc (blk_heap u9) _))
  have x10 : blk ((w6.alloc (.cells (wideA false (fun _ => 0)) 40)).setRow w6.heap.size (wideA mc (dg C))) w6.heap.size = some (.cells (wideA mc (dg C)) 40 (0, 0)) := blk_of (setRow_heap _ _ _ _ _ _ (last_block0 w6 _ _ rfl))
  have xB : Below w.heap.size w ((w6.alloc (.cells (wideA false (fun _ => 0)) 40)).setRow w6.heap.size (wideA mc (dg C))) := below_setRow (uB.alloc uB.size _) uB.size _
  generalize World.setRow _ _ _ = Y at x9 x10 xB ⊢
  generalize w6.heap.size = p10 at *
  clear u9 uB
  have y9 := blk_lt x9
  have y10 := blk_lt x10
  have yB := xB.size
  have n9 : ¬ p9 = Y.heap.size := by omega
  have n10 : ¬ p10 = Y.heap.size := by omega
  have ny9 : ¬ Y.heap.size = p9 := by omega
  have ny10 : ¬ Y.heap.size = p10 := by omega
  clear l9 us
  have htn := Lib.hid (fun X => r_turn mc C X)
  have hpl := Lib.hid (fun X => r_Plus ma (!mc) A C X (Nat.lt_of_lt_of_le hp1.out (by decide)) (Nat.lt_of_lt_of_le hp2.out (by decide)))
  go_cut [11] (fun v wx => ∃ (q : Nat) (m : Bool) (z : Nat), v = .pointer (some ⟨q, 0, none⟩) ∧ zv m z = zv ma A + zv (!mc) C ∧ z ≤ A + C ∧ blk wx q = some (.cells (wideA m (dg z)) 40 (0, 0)) ∧ Below w.heap.size w wx)
  case first =>
    go_region_with (first
      | (go_at_call 35; refine (htn.out _).mono ?_; rintro e wt ⟨rfl, hbt⟩; have hbl := below_blk hbt; have hbs := below_sz hbt; have hbn := below_ne hbt)
      | (go_at_call 34; refine (hpl.out _).mono ?_; rintro e wp ⟨mz, vz, rfl, hzz, hle, hbp⟩; have hbm := below_blk hbp; have hbr := below_sz hbp; have hbo := below_ne hbp))

    all_goals
      go_wp2_with fail
      go_meet
      refine ⟨_, mz, vz, rfl, hzz, hle, ?_, ?_⟩
      · simp only [blk_setRow_if, if_true, rowPut_some]
        first
          | (simp only [blk_alloc_if, blk_drew_at, size_alloc_lt, rowPut_some, if_true, Nat.lt_succ_self, *]; done)
          | (simp [blk_alloc_if, blk_drew_at, size_alloc_lt, rowPut_some, *]; done)
      · first
          | exact below_setRow ((((below_drewN xB 1).trans (hbt.mono yB)).trans (hbp.mono (Nat.le_trans yB hbt.size))).alloc (Nat.le_trans (Nat.le_trans yB hbt.size) hbp.size) _) (Nat.le_trans (Nat.le_trans yB hbt.size) hbp.size) _
          | exact below_setRow ((((below_drewN xB 1).trans (hbt.mono yB)).alloc (Nat.le_trans yB hbt.size) _).trans (hbp.mono (Nat.le_of_lt (lt_alloc_of' (Nat.le_trans yB hbt.size))))) (Nat.le_trans yB hbt.size) _
          | exact below_setRow ((((below_drewN xB 1).alloc yB _).trans (hbt.mono (Nat.le_of_lt (lt_alloc_of' yB)))).trans (hbp.mono (Nat.le_trans (Nat.le_of_lt (lt_alloc_of' yB)) hbt.size))) yB _
  case rest =>
    obtain ⟨q, m, z, rfl, hz, hle, hq, hB⟩ := hcut
    have hz9 : z < 65536 ^ 9 := Nat.lt_of_le_of_lt (Nat.le_trans hle (Nat.le_of_lt (Nat.add_lt_add hp1.out hp2.out))) (by decide)
    have hz9h := hide hz9
    have hsum : Hid (zv m z = a * b - c * d) := hide (by rw [hz, zv_turn, hz1.out, hz2.out, Int.sub_eq_add_neg])
    have hc0 := hide (fun k (hk : k < 9) => (show wc.cell? ⟨q, 1 + k, none⟩ = some (.int .u64 (dg z k : Nat)) from by rw [cell_of_block (blk_heap hq)]; exact wideA_get m (dg z) k hk))
    have cm : wc.cell? ⟨q, 0, none⟩ = some (.bool m) := by rw [cell_of_block (blk_heap hq)]; exact wideA_get0 m (dg z)
    clear hz hle hz9 hq htn hpl hz1 hz2 hp1 hp2 n9 n10 ny9 ny10 y9 y10 yB x9 x10 xB
    go_wp2_with fail
    go_loop [12] (fun i => ∃ k : Nat, k ≤ 9 ∧ i = .int .i64 k ∧ Hid (∀ j, j < k → dg z j = 0)) (fun i => 9 - (intOf i).toNat)
    case atStart => exact ⟨0, by omega, rfl, hide (fun j hj => absurd hj (by omega))⟩
    case round =>
      obtain ⟨k, hk, rfl, hall⟩ := hrel
      by_cases hlt : k < 9
      · have ck := hc0.out k hlt
        have hl := Lib.hid (dg_lt z k)
        by_cases h0 : dg z k = 0
        · have hn : Hid (∀ j, j < k + 1 → dg z j = 0) := hide (fun j hj => by
            by_cases e : j = k
            · rw [e]; exact h0
            · exact hall.out j (by omega))
          rw [h0] at ck
          clear h0
          go_wp2_with fail
          go_round
          case rel => exact ⟨k + 1, by omega, by go_num, hn⟩
          case measure => simp [intOf]; omega
        · have hpos : 0 < z := dg_some z k (by omega)
          have hd : 0 < ((dg z k : Nat) : Int) := by omega
          have hd2 : decide (0 < ((dg z k : Nat) : Int)) = true := decide_eq_true hd
          have hd3 : 0 < dg z k := by omega
          clear h0
          go_wp2_with fail
          go_ret
          refine ⟨ret_bool ?_, hB⟩
          have := hsum.out
          unfold zv at this
          cases m
          · simp at this ⊢; omega
          · simp at this ⊢; omega
      · obtain rfl : k = 9 := by omega
        have hz0 := dg_none z hz9h.out hall.out
        go_wp2_with fail
        go_ret
        refine ⟨ret_bool ?_, hB⟩
        have := hsum.out
        rw [hz0] at this
        unfold zv at this
        cases m <;> (simp at this ⊢; omega)
end Go.Proofs.Ytangfbahljdbhaa
