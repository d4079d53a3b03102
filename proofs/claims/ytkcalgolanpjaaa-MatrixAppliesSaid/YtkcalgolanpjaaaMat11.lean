/- The contract of the document's without. Conditions: what the slice reads as. -/
import Derived.Test.YtkcalgolanpjaaaMat10
namespace Go.Proofs.Ytkcalgolanpjaaa
open Go.RowKit
/-- the rows behind n up to row i, column k, are done -/
def woP (F : Nat → Nat → Nat) (n col i k r c : Nat) : Nat := if n < r ∧ (r < i ∨ (r = i ∧ c < k)) then F r c ^^^ rmul (rmul (F r col) (rinv (F n col))) (F n c) else F r c
theorem woP_zero (F : Nat → Nat → Nat) (n col r c : Nat) : F r c = woP F n col (n + 1) 0 r c := by unfold woP; rw [if_neg (by omega)]
theorem woP_at (F : Nat → Nat → Nat) (n col i k : Nat) : woP F n col i k i k = F i k := by unfold woP; rw [if_neg (by omega)]
theorem woP_next (F : Nat → Nat → Nat) (n col i k : Nat) (hi : n < i) (r c : Nat) : stF (woP F n col i k) i k (F i k ^^^ rmul (rmul (F i col) (rinv (F n col))) (F n k)) r c = woP F n col i (k + 1) r c := by
  unfold stF woP
  by_cases h : r = i ∧ c = k
  · obtain ⟨rfl, rfl⟩ := h
    rw [if_pos ⟨rfl, rfl⟩, if_pos (by omega)]
  · rw [if_neg h]
    by_cases h2 : n < r ∧ (r < i ∨ (r = i ∧ c < k))
    · rw [if_pos h2, if_pos (by omega)]
    · rw [if_neg h2, if_neg (by omega)]
theorem woP_row (F : Nat → Nat → Nat) (n col i C r c : Nat) (hc : c < C) : woP F n col i C r c = woP F n col (i + 1) 0 r c := by
  unfold woP
  by_cases h2 : n < r ∧ (r < i ∨ (r = i ∧ c < C))
  · rw [if_pos h2, if_pos (by omega)]
  · rw [if_neg h2, if_neg (by omega)]
theorem woP_end (F : Nat → Nat → Nat) (n col R r c : Nat) (hr : r < R) : woP F n col R 0 r c = woF F n col r c := by
  unfold woP woF
  by_cases h : n < r
  · rw [if_pos h, if_pos (by omega)]
  · rw [if_neg h, if_neg (by omega)]
theorem MRow.of_one {w : World} {g R C : Nat} {F : Nat → Nat → Nat} (h : MRow w g 1 (R * C) (fun _ j => flF C F j)) : MRow w g R C F := by
  have h2 : BRow w g (1 * (R * C)) (flF (R * C) (fun _ j => flF C F j)) := h
  rw [Nat.one_mul] at h2
  refine MRow.of h2 (fun i k hi hk => ?_)
  have := fl_at (R * C) (fun _ j => flF C F j) 0 (i * C + k) (idx_lt hi hk)
  rw [Nat.zero_mul, Nat.zero_add] at this
  rw [this, fl_at C F i k hk]
theorem wpList_copyM {P : Program} {ops : Array Oper} {rest : List Oper} {o : Oper} {a : Act} {w w' : World} {Q : Exit → Act → World → Prop} {v x r : Value} (hgd : o.guard = none) (s y : Operand) (t u : TypeId)
    (ho : o.op = .call { callee := .builtin .copy, args := #[s, y], argTypes := #[t, u] }) (hs : a.eval s = v) (hx : a.eval y = x) (hr : (Builtin.copy_ #[t, u] o.type #[v, x]).run P w = .ok r w')
    (h : wpList P ops Q rest (a.put o.dst r) w') : wpList P ops Q (o :: rest) a w := by
  refine wpList_plain hgd fun K hK => ?_
  unfold Oper.wp
  rw [exec_copy s y t u ho hs hx hr]
  exact hK _ _ h
theorem By.of_flat {w : World} {a : Option Addr} {R C : Nat} {F : Nat → Nat → Nat} (h : MAt w a R C F) : By w a (R * C) ((fun _ j => flF C F j : Nat → Nat → Nat) 0) := h.by
attribute [local irreducible] gexp gtbl glog rmul rinv rpow zexp mixF blk wLoad wLoadRes loadAns wStore wStoreRes storeAns Plain flF BRow MRow elK elF IsGf ivS gjS pvF clF swF OwnZ zfl woP
attribute [local go_sem ↓] ld_m0 ld_x0 sto_m0 sto_x0
attribute [local go_sem] ld_m ld_x sto_m sto_x loadAns_some storeAns_some mx_size mx_plain blk_alloc_if blk_setRow_if blk_drew_at blk_drewN_at rowPut_some blk_setCell_if cellPut_some
set_option maxRecDepth 100000 in
set_option maxHeartbeats 8000000 in
theorem x_without (R C n col : Nat) (a : Option Addr) (cap : Nat) (F : Nat → Nat → Nat) (w : World) (ha : MAt w a R C F) (hF : Bd2 F) (hn : n < R) (hcol : col < C) (hR : R ≤ 255) (hC : C ≤ 255) :
    Calls Try.prog 39 #[.agg #[.int .i64 (R : Nat), .int .i64 (C : Nat), .slice a (R * C) cap], .int .i64 (n : Nat), .int .i64 (col : Nat)] w (XPost w R C (woF F n col)) := by
  have hz := zeroX
  obtain ⟨h0, h1, hsz, hB⟩ := two_allocs w (.cells #[.int .i64 (R : Nat), .int .i64 (C : Nat), .slice a (R * C) cap] 33) (.cells #[.int .i64 0, .int .i64 0, .slice none 0 0] 33)
  have kat := Lib.hid (fun i k W (h : MAt W a R C F) (hi : i < R) (hk : k < C) => x_at R C i k F a cap W h hi hk hR hC)
  have hah := Lib.hid ha
  have hrc := rc_le hR hC
  have hidx := Lib.hid (fun i k (hi : i < R) (hk : k < C) => idx_lt hi hk)
  have hmk : ∀ x : World, (Instr.makeSlice 22 (.int .i64 ((R * C : Nat) : Int)) (.int .i64 ((R * C : Nat) : Int))).run Try.prog x = .ok (.slice (some ⟨x.heap.size, 0, none⟩) (R * C) (R * C)) (x.alloc (.cells (madeCells #[.int .u8 0] (R * C)) 5)) := fun x => make_row (P := Try.prog) Try.underlying22 info8 (R * C) (by omega) (by decide) x
  have hby := Lib.hid (fun W (h : MAt W a R C F) => By.of_flat h)
  obtain ⟨N, hNe⟩ : ∃ N, R * C = N := ⟨_, rfl⟩
  have hmkrow : Hid (∀ x : World, MRow (x.alloc (.cells (madeCells #[.int .u8 0] N) 5)) x.heap.size 1 N (fun _ _ => 0)) := hide (fun x => by
    have h := brow_made x (1 * N)
    refine MRow.of (f := fun _ => 0) ?_ (fun _ _ _ _ => rfl)
    rw [Nat.one_mul] at h ⊢
    exact h)
  have hone := Lib.hid (fun W g => MRow.of_one (w := W) (g := g) (R := R) (C := C) (F := F))
  rw [hNe] at kat h0 hmk hby hidx hone ⊢
  rw [hNe] at hB h1 hsz hrc
  have hNh := Lib.hid hNe
  have hrc2 : N ≤ 100000 := Nat.le_trans hrc (by decide)
  clear ha hNe hrc
  go_enter Try.func39, Try.ntmps39
  go_upto_region 1 with (fail)
  generalize World.alloc (World.alloc w _) _ = W at *
  have hx0 : w.heap.size < W.heap.size := by omega
  have hx1 : w.heap.size + 1 < W.heap.size := by omega
  have h0h := Lib.hid (blk_of h0)
  have h1h := Lib.hid h1
  have hBh := Lib.hid hB
  have hwW : w.heap.size ≤ W.heap.size := by omega
  have c2 : W.cell? ⟨w.heap.size, 2, none⟩ = some (.slice a N cap) := (cell_of_block h0).trans rfl
  clear h0 h1 hsz hB
  go_upto_region 2 with (fail)
  have hb2 := below_one W (.cells (madeCells #[.int .u8 0] N) 5)
  have hm2 := hmkrow.out W
  have hg2 : W.heap.size < (W.alloc (.cells (madeCells #[.int .u8 0] N) 5)).heap.size := by show _ < (W.heap.push _).size; rw [Array.size_push]; omega
  generalize World.alloc W _ = W2 at *
  obtain ⟨W3, hrun, hm3, hgr3⟩ := run_copy_mrow W2 W.heap.size 1 N 0 N cap (fun _ _ => 0) a ((fun _ j => flF C F j : Nat → Nat → Nat) 0) 3 hm2 (by omega) (hby.out W2 ((hah.out.below hBh.out).below hb2))
  rw [Nat.zero_mul] at hrun
  have c22 : W2.cell? ⟨w.heap.size, 2, none⟩ = some (.slice a N cap) := (hb2.cell (p := ⟨w.heap.size, 2, none⟩) hx0).trans c2
  have hm3F : Hid (MRow W3 W.heap.size R C F) := hide (hone.out W3 W.heap.size (hm3.congr (fun r c hr _ => by unfold roF; rw [if_pos (by omega)])))
  have hb3 : Hid (Below W.heap.size W W3) := hide (below_grown hb2 (Nat.le_refl _) hgr3 (fun b hb => by cases hb; exact Nat.le_refl _))
  have hs3 : W.heap.size < W3.heap.size := by have := hgr3.size; omega
  clear c2 hb2 hm2 hm3 hgr3 hmk
  go_upto_region 3 with (refine wpList_copyM rfl (.tmp 16) (.tmp 18) _ _ rfl rfl rfl hrun ?_)
  have b03 := (blk_below hb3.out hx0).trans h0h.out
  have k1 := Lib.hid (kat.out n col W3 ((hah.out.below hBh.out).below hb3.out) hn hcol)
  have kinv := Lib.hid (fun W' => ref_inv (F n col) W' (hF n col))
  go_wp2_with fail
  refine k1.out.mono ?_
  rintro e w4 ⟨rfl, hb4⟩
  have hm4 := Lib.hid (hm3F.out.below hb4 hm3F.out.lt)
  have hb4h := Lib.hid (below_step hb3.out hb3.out.size hb4)
  clear hb4 b03 c22 hrun hg2
  have hwn0 := Lib.hid (fun i k hi r c => woP_next F n col i k hi r c)
  have hwat := Lib.hid (fun i k => woP_at F n col i k)
  go_wp2_with fail
  refine (kinv.out w4).mono ?_
  rintro e w5 ⟨rfl, rfl⟩
  have hiv := rinv_lt (F n col)
  generalize rinv (F n col) = v at *
  have hmS : Hid (MRow w4 W.heap.size R C (woP F n col (n + 1) 0)) := hide (hm4.out.congr (fun r c _ _ => woP_zero F n col r c))
  have hS : Hid (∀ y : World, Below W.heap.size W y → (blk y w.heap.size = some (.cells #[.int .i64 (R : Nat), .int .i64 (C : Nat), .slice a N cap] 33 (0, 0)) ∧ y.cell? ⟨w.heap.size, 1, none⟩ = some (.int .i64 (C : Nat)))) := hide (fun y hy =>
    ⟨(blk_below hy hx0).trans h0h.out, (cell_of_block (blk_heap ((blk_below hy hx0).trans h0h.out))).trans rfl⟩)
  go_upto_region 5 with (fail)
  go_loopw [9] (fun iv wr => ∃ i : Nat, n + 1 ≤ i ∧ i ≤ R ∧ iv = .int .i64 (i : Nat) ∧ Hid (MRow wr W.heap.size R C (woP F n col i 0)) ∧ Hid (Below W.heap.size W wr)) (fun iv _ => R - (intOf iv).toNat)
  case atStart => exact ⟨n + 1, Nat.le_refl _, hn, by go_num, hmS, hb4h⟩
  case round =>
    obtain ⟨i, hi1, hi2, rfl, hM0, hL0⟩ := hrel
    clear hmS
    have hs0 := hS.out wr hL0.out
    have b0 := hs0.1
    have c0 : wr.cell? ⟨w.heap.size, 0, none⟩ = some (.int .i64 (R : Nat)) := (cell_of_block (blk_heap b0)).trans rfl
    by_cases hiR : i < R
    · have i1 : (i : Int) < (R : Int) := by omega
      have k2 := Lib.hid (kat.out i col wr ((hah.out.below hBh.out).below hL0.out) hiR hcol)
      have hFi := hF i col
      have kmu := Lib.hid (fun W' => ref_mul (F i col) v W' hFi hiv)
      have hwn1 := Lib.hid (fun k r c => hwn0.out i k (by omega) r c)
      have hxa0 := Lib.hid (fun k y (hl : Below W.heap.size W y) (hk : k < C) => kat.out n k y ((hah.out.below hBh.out).below hl) hn hk)
      clear hs0
      go_wp2_with fail
      refine k2.out.mono ?_
      rintro e w6 ⟨rfl, hb6⟩
      have hM6 := Lib.hid (hM0.out.below hb6 hM0.out.lt)
      have hL6 := Lib.hid (below_step hL0.out hL0.out.size hb6)
      clear hb6 b0
      go_wp2_with fail
      refine (kmu.out w6).mono ?_
      rintro e w7 ⟨rfl, rfl⟩
      have hcc := rmul_lt (F i col) v
      generalize rmul (F i col) v = cc at *
      have hMK : Hid (MRow w6 W.heap.size R C (woP F n col i 0)) := hM6
      go_upto_region 9 with (fail)
      go_loopw [11] (fun kv wr => ∃ k : Nat, k ≤ C ∧ kv = .int .i64 (k : Nat) ∧ Hid (MRow wr W.heap.size R C (woP F n col i k)) ∧ Hid (Below W.heap.size W wr)) (fun kv _ => C - (intOf kv).toNat)
      case atStart => exact ⟨0, Nat.zero_le _, rfl, hMK, hL6⟩
      case round =>
        obtain ⟨k, hk, rfl, hM1, hL1⟩ := hrel
        clear hMK hM6 hL6
        have c1 := (hS.out wr hL1.out).2
        by_cases hkC : k < C
        · have i2 : (k : Int) < (C : Int) := by omega
          have hq := hidx.out i k hiR hkC
          have hwa := Lib.hid (hwat.out i k)
          have hxa := Lib.hid (fun y hl => hxa0.out k y hl hkC)
          have hFn := hF n k
          have hxm := Lib.hid (fun W' => ref_mul cc (F n k) W' hcc hFn)
          have hwn := Lib.hid (fun r c => hwn1.out k r c)
          have hFo := hF i k
          have hxo := u8_xor_nat (F i k) (rmul cc (F n k)) hFo (rmul_lt cc (F n k))
          obtain ⟨xn, hxn⟩ : ∃ xn, F i k ^^^ rmul cc (F n k) = xn := ⟨_, rfl⟩
          rw [hxn] at hxo hwn
          clear hxn
          generalize rmul cc (F n k) = xm at *
          generalize F n k = xk at *
          obtain ⟨xo, hxoe⟩ : ∃ xo, F i k = xo := ⟨_, rfl⟩
          rw [hxoe] at hxo hwa
          clear hxoe hFo
          have e3 := (idx_walk i C k N hq hrc2).1
          have l1 := (idx_walk i C k N hq hrc2).2.2.1
          have e6 := (idx_walk i C k N hq hrc2).2.2.2.2
          have e5 := (idx_walk i C k N hq hrc2).2.2.2.1
          obtain ⟨q, hqe⟩ : ∃ q, i * C = q := ⟨_, rfl⟩
          rw [hqe] at e3 l1 e6 e5
          have hqq := Lib.hid hqe
          have l2 : 0 ≤ (q : Int) + (k : Int) := by omega
          clear hqe hq
          go_upto_region 11 with (fail)
          have hmz0 := Lib.hid (hM1.out.drewN 1)
          have hlz0 := Lib.hid (below_drewN hL1.out 1)
          refine h_begin 25 (fun y : World => blk y w.heap.size = some (.cells #[.int .i64 (R : Nat), .int .i64 (C : Nat), .slice a N cap] 33 (0, 0)) ∧ y.cell? ⟨w.heap.size, 1, none⟩ = some (.int .i64 (C : Nat))) rfl (by kernel_rfl) (hS.out _ hlz0.out) ?_
          obtain ⟨z, hzd⟩ : ∃ z, wr.drew = z := ⟨_, rfl⟩
          have hmz : Hid (MRow z W.heap.size R C (woP F n col i k)) := hide (by rw [← hzd]; exact hmz0.out)
          have hlz : Hid (Below W.heap.size W z) := hide (by rw [← hzd]; exact hlz0.out)
          rw [hzd]
          clear hzd hmz0 hlz0
          have hHeld : (fun y : World => blk y w.heap.size = some (.cells #[.int .i64 (R : Nat), .int .i64 (C : Nat), .slice a N cap] 33 (0, 0)) ∧ y.cell? ⟨w.heap.size, 1, none⟩ = some (.int .i64 (C : Nat))) z := hS.out _ hlz.out
          first
            | (refine h_run (i := 0) (v := ?_) hHeld rfl (by kernel_rfl) (by kernel_rfl) (by kernel_rfl) ?_ ?_ ?_
               rotate_left
               · rfl
               · (intro x hSx; (try dsimp only at hSx); go_simp <;> with_reducible rfl)
               simp only [Act.put, List.setIfInBounds_toArray, List.set_cons_zero, List.set_cons_succ])
            | (refine h_skip (i := 0) hHeld rfl (by kernel_rfl) (by kernel_rfl) (by kernel_rfl) ?_ ?_
               · rfl
               simp only [Act.put, List.setIfInBounds_toArray, List.set_cons_zero, List.set_cons_succ])
          first
            | (refine h_run (i := 1) (v := ?_) hHeld rfl (by kernel_rfl) (by kernel_rfl) (by kernel_rfl) ?_ ?_ ?_
               rotate_left
               · rfl
               · (intro x hSx; (try dsimp only at hSx); go_simp <;> with_reducible rfl)
               simp only [Act.put, List.setIfInBounds_toArray, List.set_cons_zero, List.set_cons_succ])
            | (refine h_skip (i := 1) hHeld rfl (by kernel_rfl) (by kernel_rfl) (by kernel_rfl) ?_ ?_
               · rfl
               simp only [Act.put, List.setIfInBounds_toArray, List.set_cons_zero, List.set_cons_succ])
          first
            | (refine h_run (i := 2) (v := ?_) hHeld rfl (by kernel_rfl) (by kernel_rfl) (by kernel_rfl) ?_ ?_ ?_
               rotate_left
               · rfl
               · (intro x hSx; (try dsimp only at hSx); go_simp <;> with_reducible rfl)
               simp only [Act.put, List.setIfInBounds_toArray, List.set_cons_zero, List.set_cons_succ])
            | (refine h_skip (i := 2) hHeld rfl (by kernel_rfl) (by kernel_rfl) (by kernel_rfl) ?_ ?_
               · rfl
               simp only [Act.put, List.setIfInBounds_toArray, List.set_cons_zero, List.set_cons_succ])
          first
            | (refine h_run (i := 3) (v := ?_) hHeld rfl (by kernel_rfl) (by kernel_rfl) (by kernel_rfl) ?_ ?_ ?_
               rotate_left
               · rfl
               · (intro x hSx; (try dsimp only at hSx); go_simp <;> with_reducible rfl)
               simp only [Act.put, List.setIfInBounds_toArray, List.set_cons_zero, List.set_cons_succ])
            | (refine h_skip (i := 3) hHeld rfl (by kernel_rfl) (by kernel_rfl) (by kernel_rfl) ?_ ?_
               · rfl
               simp only [Act.put, List.setIfInBounds_toArray, List.set_cons_zero, List.set_cons_succ])
          first
            | (refine h_run (i := 4) (v := ?_) hHeld rfl (by kernel_rfl) (by kernel_rfl) (by kernel_rfl) ?_ ?_ ?_
               rotate_left
               · rfl
               · (intro x hSx; (try dsimp only at hSx); go_simp <;> with_reducible rfl)
               simp only [Act.put, List.setIfInBounds_toArray, List.set_cons_zero, List.set_cons_succ])
            | (refine h_skip (i := 4) hHeld rfl (by kernel_rfl) (by kernel_rfl) (by kernel_rfl) ?_ ?_
               · rfl
               simp only [Act.put, List.setIfInBounds_toArray, List.set_cons_zero, List.set_cons_succ])
          first
            | (refine h_run (i := 5) (v := ?_) hHeld rfl (by kernel_rfl) (by kernel_rfl) (by kernel_rfl) ?_ ?_ ?_
               rotate_left
               · rfl
               · (intro x hSx; (try dsimp only at hSx); go_simp <;> with_reducible rfl)
               simp only [Act.put, List.setIfInBounds_toArray, List.set_cons_zero, List.set_cons_succ])
            | (refine h_skip (i := 5) hHeld rfl (by kernel_rfl) (by kernel_rfl) (by kernel_rfl) ?_ ?_
               · rfl
               simp only [Act.put, List.setIfInBounds_toArray, List.set_cons_zero, List.set_cons_succ])
          first
            | (refine h_run (i := 6) (v := ?_) hHeld rfl (by kernel_rfl) (by kernel_rfl) (by kernel_rfl) ?_ ?_ ?_
               rotate_left
               · rfl
               · (intro x hSx; (try dsimp only at hSx); go_simp <;> with_reducible rfl)
               simp only [Act.put, List.setIfInBounds_toArray, List.set_cons_zero, List.set_cons_succ])
            | (refine h_skip (i := 6) hHeld rfl (by kernel_rfl) (by kernel_rfl) (by kernel_rfl) ?_ ?_
               · rfl
               simp only [Act.put, List.setIfInBounds_toArray, List.set_cons_zero, List.set_cons_succ])
          first
            | (refine h_run (i := 7) (v := ?_) hHeld rfl (by kernel_rfl) (by kernel_rfl) (by kernel_rfl) ?_ ?_ ?_
               rotate_left
               · rfl
               · (intro x hSx; (try dsimp only at hSx); go_simp <;> with_reducible rfl)
               simp only [Act.put, List.setIfInBounds_toArray, List.set_cons_zero, List.set_cons_succ])
            | (refine h_skip (i := 7) hHeld rfl (by kernel_rfl) (by kernel_rfl) (by kernel_rfl) ?_ ?_
               · rfl
               simp only [Act.put, List.setIfInBounds_toArray, List.set_cons_zero, List.set_cons_succ])
          first
            | (refine h_run (i := 8) (v := ?_) hHeld rfl (by kernel_rfl) (by kernel_rfl) (by kernel_rfl) ?_ ?_ ?_
               rotate_left
               · rfl
               · (intro x hSx; (try dsimp only at hSx); go_simp <;> with_reducible rfl)
               simp only [Act.put, List.setIfInBounds_toArray, List.set_cons_zero, List.set_cons_succ])
            | (refine h_skip (i := 8) hHeld rfl (by kernel_rfl) (by kernel_rfl) (by kernel_rfl) ?_ ?_
               · rfl
               simp only [Act.put, List.setIfInBounds_toArray, List.set_cons_zero, List.set_cons_succ])
          first
            | (refine h_run (i := 9) (v := ?_) hHeld rfl (by kernel_rfl) (by kernel_rfl) (by kernel_rfl) ?_ ?_ ?_
               rotate_left
               · rfl
               · (intro x hSx; (try dsimp only at hSx); go_simp <;> with_reducible rfl)
               simp only [Act.put, List.setIfInBounds_toArray, List.set_cons_zero, List.set_cons_succ])
            | (refine h_skip (i := 9) hHeld rfl (by kernel_rfl) (by kernel_rfl) (by kernel_rfl) ?_ ?_
               · rfl
               simp only [Act.put, List.setIfInBounds_toArray, List.set_cons_zero, List.set_cons_succ])
          first
            | (refine h_run (i := 10) (v := ?_) hHeld rfl (by kernel_rfl) (by kernel_rfl) (by kernel_rfl) ?_ ?_ ?_
               rotate_left
               · rfl
               · (intro x hSx; (try dsimp only at hSx); go_simp <;> with_reducible rfl)
               simp only [Act.put, List.setIfInBounds_toArray, List.set_cons_zero, List.set_cons_succ])
            | (refine h_skip (i := 10) hHeld rfl (by kernel_rfl) (by kernel_rfl) (by kernel_rfl) ?_ ?_
               · rfl
               simp only [Act.put, List.setIfInBounds_toArray, List.set_cons_zero, List.set_cons_succ])
          first
            | (refine h_run (i := 11) (v := ?_) hHeld rfl (by kernel_rfl) (by kernel_rfl) (by kernel_rfl) ?_ ?_ ?_
               rotate_left
               · rfl
               · (intro x hSx; (try dsimp only at hSx); go_simp <;> with_reducible rfl)
               simp only [Act.put, List.setIfInBounds_toArray, List.set_cons_zero, List.set_cons_succ])
            | (refine h_skip (i := 11) hHeld rfl (by kernel_rfl) (by kernel_rfl) (by kernel_rfl) ?_ ?_
               · rfl
               simp only [Act.put, List.setIfInBounds_toArray, List.set_cons_zero, List.set_cons_succ])
          first
            | (refine h_run (i := 12) (v := ?_) hHeld rfl (by kernel_rfl) (by kernel_rfl) (by kernel_rfl) ?_ ?_ ?_
               rotate_left
               · rfl
               · (intro x hSx; (try dsimp only at hSx); go_simp <;> with_reducible rfl)
               simp only [Act.put, List.setIfInBounds_toArray, List.set_cons_zero, List.set_cons_succ])
            | (refine h_skip (i := 12) hHeld rfl (by kernel_rfl) (by kernel_rfl) (by kernel_rfl) ?_ ?_
               · rfl
               simp only [Act.put, List.setIfInBounds_toArray, List.set_cons_zero, List.set_cons_succ])
          first
            | (refine h_run (i := 13) (v := ?_) hHeld rfl (by kernel_rfl) (by kernel_rfl) (by kernel_rfl) ?_ ?_ ?_
               rotate_left
               · rfl
               · (intro x hSx; (try dsimp only at hSx); go_simp <;> with_reducible rfl)
               simp only [Act.put, List.setIfInBounds_toArray, List.set_cons_zero, List.set_cons_succ])
            | (refine h_skip (i := 13) hHeld rfl (by kernel_rfl) (by kernel_rfl) (by kernel_rfl) ?_ ?_
               · rfl
               simp only [Act.put, List.setIfInBounds_toArray, List.set_cons_zero, List.set_cons_succ])
          first
            | (refine h_run (i := 14) (v := ?_) hHeld rfl (by kernel_rfl) (by kernel_rfl) (by kernel_rfl) ?_ ?_ ?_
               rotate_left
               · rfl
               · (intro x hSx; (try dsimp only at hSx); go_simp <;> with_reducible rfl)
               simp only [Act.put, List.setIfInBounds_toArray, List.set_cons_zero, List.set_cons_succ])
            | (refine h_skip (i := 14) hHeld rfl (by kernel_rfl) (by kernel_rfl) (by kernel_rfl) ?_ ?_
               · rfl
               simp only [Act.put, List.setIfInBounds_toArray, List.set_cons_zero, List.set_cons_succ])
          first
            | (refine h_run (i := 16) (v := ?_) hHeld rfl (by kernel_rfl) (by kernel_rfl) (by kernel_rfl) ?_ ?_ ?_
               rotate_left
               · rfl
               · (intro x hSx; (try dsimp only at hSx); go_simp <;> with_reducible rfl)
               simp only [Act.put, List.setIfInBounds_toArray, List.set_cons_zero, List.set_cons_succ])
            | (refine h_skip (i := 16) hHeld rfl (by kernel_rfl) (by kernel_rfl) (by kernel_rfl) ?_ ?_
               · rfl
               simp only [Act.put, List.setIfInBounds_toArray, List.set_cons_zero, List.set_cons_succ])
          first
            | (refine h_run (i := 17) (v := ?_) hHeld rfl (by kernel_rfl) (by kernel_rfl) (by kernel_rfl) ?_ ?_ ?_
               rotate_left
               · rfl
               · (intro x hSx; (try dsimp only at hSx); go_simp <;> with_reducible rfl)
               simp only [Act.put, List.setIfInBounds_toArray, List.set_cons_zero, List.set_cons_succ])
            | (refine h_skip (i := 17) hHeld rfl (by kernel_rfl) (by kernel_rfl) (by kernel_rfl) ?_ ?_
               · rfl
               simp only [Act.put, List.setIfInBounds_toArray, List.set_cons_zero, List.set_cons_succ])
          first
            | (refine h_run (i := 18) (v := ?_) hHeld rfl (by kernel_rfl) (by kernel_rfl) (by kernel_rfl) ?_ ?_ ?_
               rotate_left
               · rfl
               · (intro x hSx; (try dsimp only at hSx); go_simp <;> with_reducible rfl)
               simp only [Act.put, List.setIfInBounds_toArray, List.set_cons_zero, List.set_cons_succ])
            | (refine h_skip (i := 18) hHeld rfl (by kernel_rfl) (by kernel_rfl) (by kernel_rfl) ?_ ?_
               · rfl
               simp only [Act.put, List.setIfInBounds_toArray, List.set_cons_zero, List.set_cons_succ])
          first
            | (refine h_run (i := 19) (v := ?_) hHeld rfl (by kernel_rfl) (by kernel_rfl) (by kernel_rfl) ?_ ?_ ?_
               rotate_left
               · rfl
               · (intro x hSx; (try dsimp only at hSx); go_simp <;> with_reducible rfl)
               simp only [Act.put, List.setIfInBounds_toArray, List.set_cons_zero, List.set_cons_succ])
            | (refine h_skip (i := 19) hHeld rfl (by kernel_rfl) (by kernel_rfl) (by kernel_rfl) ?_ ?_
               · rfl
               simp only [Act.put, List.setIfInBounds_toArray, List.set_cons_zero, List.set_cons_succ])
          clear hHeld
          have clz := hmz.out.cell i k hiR hkC
          rw [hwa.out, hqq.out] at clz
          refine h_pairM (i := 15) (j := 20) (v := .int .u8 (xo : Nat)) (w1 := z) (hxa.out z hlz.out) rfl rfl (by kernel_rfl) rfl rfl ?_ ?_ (hS.out _ hlz.out) ?_ ?_
          · go_simp <;> with_reducible rfl
          · go_simp <;> with_reducible rfl
          · clear clz
            refine h_call (i := 20) (fun y : World => blk y w.heap.size = some (.cells #[.int .i64 (R : Nat), .int .i64 (C : Nat), .slice a N cap] 33 (0, 0)) ∧ y.cell? ⟨w.heap.size, 1, none⟩ = some (.int .i64 (C : Nat))) (fun _ h => h) (hxa.out z hlz.out) rfl (by kernel_rfl) rfl ?_ ?_
            · go_simp <;> with_reducible rfl
            rintro e y ⟨rfl, hcy⟩
            have hmy := Lib.hid (hmz.out.below hcy hmz.out.lt)
            have hly := Lib.hid (below_step hlz.out hlz.out.size hcy)
            refine ⟨_, rfl, hS.out _ hly.out, ?_⟩
            clear hcy
            refine h_call (i := 21) (fun y : World => blk y w.heap.size = some (.cells #[.int .i64 (R : Nat), .int .i64 (C : Nat), .slice a N cap] 33 (0, 0)) ∧ y.cell? ⟨w.heap.size, 1, none⟩ = some (.int .i64 (C : Nat))) (fun _ h => h) (hxm.out y) rfl (by kernel_rfl) rfl ?_ ?_
            · go_simp <;> with_reducible rfl
            rintro e yx ⟨rfl, rfl⟩
            refine ⟨_, rfl, hS.out _ hly.out, ?_⟩
            have hHeld : (fun y : World => blk y w.heap.size = some (.cells #[.int .i64 (R : Nat), .int .i64 (C : Nat), .slice a N cap] 33 (0, 0)) ∧ y.cell? ⟨w.heap.size, 1, none⟩ = some (.int .i64 (C : Nat))) y := hS.out _ hly.out
            first
              | (refine h_run (i := 22) (v := .int .u8 (xn : Nat)) hHeld rfl (by kernel_rfl) (by kernel_rfl) (by kernel_rfl) ?_ ?_ ?_
                 · rfl
                 · (intro x hSx; go_simp <;> with_reducible rfl)
                 simp only [Act.put, List.setIfInBounds_toArray, List.set_cons_zero, List.set_cons_succ])
            first
              | (refine h_run (i := 23) (v := ?_) hHeld rfl (by kernel_rfl) (by kernel_rfl) (by kernel_rfl) ?_ ?_ ?_
                 rotate_left
                 · rfl
                 · (intro x hSx; (try dsimp only at hSx); go_simp <;> with_reducible rfl)
                 simp only [Act.put, List.setIfInBounds_toArray, List.set_cons_zero, List.set_cons_succ])
              | (refine h_skip (i := 23) hHeld rfl (by kernel_rfl) (by kernel_rfl) (by kernel_rfl) ?_ ?_
                 · rfl
                 simp only [Act.put, List.setIfInBounds_toArray, List.set_cons_zero, List.set_cons_succ])
            clear hHeld
            have cwy := hmy.out.cell i k hiR hkC
            rw [hwa.out, hqq.out] at cwy
            have fwy := hmy.out.fr (q + k)
            have hset := (hmy.out.set i k xn hkC).congr (fun r c _ _ => hwn.out r c)
            rw [hqq.out] at hset
            have hlset : Below W.heap.size W (y.setCell ⟨W.heap.size, q + k, none⟩ (.int .u8 (xn : Nat))) := hly.out.setCell (Nat.le_refl _) _
            refine h_write (i := 24) (w' := y.setCell ⟨W.heap.size, q + k, none⟩ (.int .u8 (xn : Nat))) (fun y : World => blk y w.heap.size = some (.cells #[.int .i64 (R : Nat), .int .i64 (C : Nat), .slice a N cap] 33 (0, 0)) ∧ y.cell? ⟨w.heap.size, 1, none⟩ = some (.int .i64 (C : Nat))) (fun _ h => h) rfl (by kernel_rfl) rfl ?_ (hS.out _ hlset) ?_
            · go_simp <;> with_reducible rfl
            refine h_done (by kernel_rfl) ?_
            have hseth := Lib.hid hset
            have hlseth := Lib.hid hlset
            clear hset hlset cwy fwy
            go_wp2_with fail
            go_roundw
            case rel => exact ⟨k + 1, by omega, by go_num, hseth, hlseth⟩
            case measure => simp [intOf]; omega
          · rintro e y ⟨rfl, hcy⟩
            have hmy := Lib.hid (hmz.out.below hcy hmz.out.lt)
            have hly := Lib.hid (below_step hlz.out hlz.out.size hcy)
            refine ⟨_, rfl, hS.out _ hly.out, ?_⟩
            clear hcy clz
            have cly := hmy.out.cell i k hiR hkC
            rw [hwa.out, hqq.out] at cly
            refine h_pairM (i := 15) (j := 21) (v := .int .u8 (xo : Nat)) (w1 := y) (hxm.out y) rfl rfl (by kernel_rfl) rfl rfl ?_ ?_ (hS.out _ hly.out) ?_ ?_
            · go_simp <;> with_reducible rfl
            · go_simp <;> with_reducible rfl
            · clear cly
              refine h_call (i := 21) (fun y : World => blk y w.heap.size = some (.cells #[.int .i64 (R : Nat), .int .i64 (C : Nat), .slice a N cap] 33 (0, 0)) ∧ y.cell? ⟨w.heap.size, 1, none⟩ = some (.int .i64 (C : Nat))) (fun _ h => h) (hxm.out y) rfl (by kernel_rfl) rfl ?_ ?_
              · go_simp <;> with_reducible rfl
              rintro e yx ⟨rfl, rfl⟩
              refine ⟨_, rfl, hS.out _ hly.out, ?_⟩
              have hHeld : (fun y : World => blk y w.heap.size = some (.cells #[.int .i64 (R : Nat), .int .i64 (C : Nat), .slice a N cap] 33 (0, 0)) ∧ y.cell? ⟨w.heap.size, 1, none⟩ = some (.int .i64 (C : Nat))) y := hS.out _ hly.out
              first
                | (refine h_run (i := 22) (v := .int .u8 (xn : Nat)) hHeld rfl (by kernel_rfl) (by kernel_rfl) (by kernel_rfl) ?_ ?_ ?_
                   · rfl
                   · (intro x hSx; go_simp <;> with_reducible rfl)
                   simp only [Act.put, List.setIfInBounds_toArray, List.set_cons_zero, List.set_cons_succ])
              first
                | (refine h_run (i := 23) (v := ?_) hHeld rfl (by kernel_rfl) (by kernel_rfl) (by kernel_rfl) ?_ ?_ ?_
                   rotate_left
                   · rfl
                   · (intro x hSx; (try dsimp only at hSx); go_simp <;> with_reducible rfl)
                   simp only [Act.put, List.setIfInBounds_toArray, List.set_cons_zero, List.set_cons_succ])
                | (refine h_skip (i := 23) hHeld rfl (by kernel_rfl) (by kernel_rfl) (by kernel_rfl) ?_ ?_
                   · rfl
                   simp only [Act.put, List.setIfInBounds_toArray, List.set_cons_zero, List.set_cons_succ])
              clear hHeld
              have cwy := hmy.out.cell i k hiR hkC
              rw [hwa.out, hqq.out] at cwy
              have fwy := hmy.out.fr (q + k)
              have hset := (hmy.out.set i k xn hkC).congr (fun r c _ _ => hwn.out r c)
              rw [hqq.out] at hset
              have hlset : Below W.heap.size W (y.setCell ⟨W.heap.size, q + k, none⟩ (.int .u8 (xn : Nat))) := hly.out.setCell (Nat.le_refl _) _
              refine h_write (i := 24) (w' := y.setCell ⟨W.heap.size, q + k, none⟩ (.int .u8 (xn : Nat))) (fun y : World => blk y w.heap.size = some (.cells #[.int .i64 (R : Nat), .int .i64 (C : Nat), .slice a N cap] 33 (0, 0)) ∧ y.cell? ⟨w.heap.size, 1, none⟩ = some (.int .i64 (C : Nat))) (fun _ h => h) rfl (by kernel_rfl) rfl ?_ (hS.out _ hlset) ?_
              · go_simp <;> with_reducible rfl
              refine h_done (by kernel_rfl) ?_
              have hseth := Lib.hid hset
              have hlseth := Lib.hid hlset
              clear hset hlset cwy fwy
              go_wp2_with fail
              go_roundw
              case rel => exact ⟨k + 1, by omega, by go_num, hseth, hlseth⟩
              case measure => simp [intOf]; omega
            · rintro e y9 ⟨rfl, rfl⟩
              refine ⟨_, rfl, hS.out _ hly.out, ?_⟩
              clear cly
              have cly := hmy.out.cell i k hiR hkC
              rw [hwa.out, hqq.out] at cly
              refine h_value (i := 15) (v := .int .u8 (xo : Nat)) (w' := y) (fun y : World => blk y w.heap.size = some (.cells #[.int .i64 (R : Nat), .int .i64 (C : Nat), .slice a N cap] 33 (0, 0)) ∧ y.cell? ⟨w.heap.size, 1, none⟩ = some (.int .i64 (C : Nat))) (fun _ h => h) rfl (by kernel_rfl) rfl ?_ (hS.out _ hly.out) ?_
              · go_simp <;> with_reducible rfl
              clear cly
              have hHeld : (fun y : World => blk y w.heap.size = some (.cells #[.int .i64 (R : Nat), .int .i64 (C : Nat), .slice a N cap] 33 (0, 0)) ∧ y.cell? ⟨w.heap.size, 1, none⟩ = some (.int .i64 (C : Nat))) y := hS.out _ hly.out
              first
                | (refine h_run (i := 22) (v := .int .u8 (xn : Nat)) hHeld rfl (by kernel_rfl) (by kernel_rfl) (by kernel_rfl) ?_ ?_ ?_
                   · rfl
                   · (intro x hSx; go_simp <;> with_reducible rfl)
                   simp only [Act.put, List.setIfInBounds_toArray, List.set_cons_zero, List.set_cons_succ])
              first
                | (refine h_run (i := 23) (v := ?_) hHeld rfl (by kernel_rfl) (by kernel_rfl) (by kernel_rfl) ?_ ?_ ?_
                   rotate_left
                   · rfl
                   · (intro x hSx; (try dsimp only at hSx); go_simp <;> with_reducible rfl)
                   simp only [Act.put, List.setIfInBounds_toArray, List.set_cons_zero, List.set_cons_succ])
                | (refine h_skip (i := 23) hHeld rfl (by kernel_rfl) (by kernel_rfl) (by kernel_rfl) ?_ ?_
                   · rfl
                   simp only [Act.put, List.setIfInBounds_toArray, List.set_cons_zero, List.set_cons_succ])
              clear hHeld
              have cwy := hmy.out.cell i k hiR hkC
              rw [hwa.out, hqq.out] at cwy
              have fwy := hmy.out.fr (q + k)
              have hset := (hmy.out.set i k xn hkC).congr (fun r c _ _ => hwn.out r c)
              rw [hqq.out] at hset
              have hlset : Below W.heap.size W (y.setCell ⟨W.heap.size, q + k, none⟩ (.int .u8 (xn : Nat))) := hly.out.setCell (Nat.le_refl _) _
              refine h_write (i := 24) (w' := y.setCell ⟨W.heap.size, q + k, none⟩ (.int .u8 (xn : Nat))) (fun y : World => blk y w.heap.size = some (.cells #[.int .i64 (R : Nat), .int .i64 (C : Nat), .slice a N cap] 33 (0, 0)) ∧ y.cell? ⟨w.heap.size, 1, none⟩ = some (.int .i64 (C : Nat))) (fun _ h => h) rfl (by kernel_rfl) rfl ?_ (hS.out _ hlset) ?_
              · go_simp <;> with_reducible rfl
              refine h_done (by kernel_rfl) ?_
              have hseth := Lib.hid hset
              have hlseth := Lib.hid hlset
              clear hset hlset cwy fwy
              go_wp2_with fail
              go_roundw
              case rel => exact ⟨k + 1, by omega, by go_num, hseth, hlseth⟩
              case measure => simp [intOf]; omega
        · obtain rfl : k = C := by omega
          have i2 : decide ((k : Int) < (k : Int)) = false := by simp
          have hM2 := Lib.hid (hM1.out.congr (fun r c _ hc => woP_row F n col i k r c hc))
          go_wp2_with fail
          go_roundw
          case rel => exact ⟨i + 1, by omega, by omega, by go_num, hM2, hL1⟩
          case measure => simp [intOf]; omega
    · obtain rfl : i = R := by omega
      have i1 : decide ((i : Int) < (i : Int)) = false := by simp
      have hMf := Lib.hid (hM0.out.congr (fun r c hr _ => woP_end F n col i r c hr))
      have f2 : wr.frozen? ⟨w.heap.size, 2, none⟩ = false := frozen_of_row wr _ 2 _ _ (blk_heap b0)
      have c2 : wr.cell? ⟨w.heap.size, 2, none⟩ = some (.slice a N cap) := (cell_of_block (blk_heap b0)).trans rfl
      have hb1 := (hL0.out.block _ hx1).trans h1h.out
      have hb1b := blk_of hb1
      have hb1h := Lib.hid hb1
      have hlo := Lib.hid (hBh.out.trans (hL0.out.mono hwW))
      have hne : ¬ w.heap.size + 1 = w.heap.size := by omega
      have hg1 : W.heap.size ≠ w.heap.size := by omega
      have hg2 : W.heap.size ≠ w.heap.size + 1 := by omega
      have hfin : Hid (∀ v D, MAt ((wr.setCell ⟨w.heap.size, 2, none⟩ v).setRow (w.heap.size + 1) D) (some ⟨W.heap.size, 0, none⟩) i C (woF F n col) ∧ Below w.heap.size w ((wr.setCell ⟨w.heap.size, 2, none⟩ v).setRow (w.heap.size + 1) D)) := hide (fun v D =>
        ⟨((hMf.out.stay (heap_setCell_other _ _ _ _ hg1)).stay (setRow_other _ _ _ _ hg2)).mat, below_setRow (hlo.out.setCell (Nat.le_refl _) v) (by omega) D⟩)
      clear hb1 hs0
      go_wp2_with fail
      refine bodyPost_ret (v := .agg #[.int .i64 (i : Nat), .int .i64 (C : Nat), .slice (some ⟨W.heap.size, 0, none⟩) N N]) (results_cell_row rfl _ _ (w.heap.size + 1) 33 _ (0, 0) _ rfl (setRow_heap _ _ _ _ _ _ ((heap_setCell_other _ _ _ _ hne).trans hb1h.out)) Try.underlying33 rfl rx_info) rfl ⟨some ⟨W.heap.size, 0, none⟩, N, by rw [hNh.out], (hfin.out _ _).1, (fun e => by cases e), by rw [hNh.out]; exact Nat.le_refl _, (hfin.out _ _).2⟩
end Go.Proofs.Ytkcalgolanpjaaa
