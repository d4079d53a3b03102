/- Matrices of one's own: two rows change places (swap). -/
import Derived.Test.YtkcalgolanpjaaaMat3
namespace Go.Proofs.Ytkcalgolanpjaaa
open Go.RowKit
/-- two rows change places -/
def swF (F : Nat → Nat → Nat) (i k r c : Nat) : Nat := F (if r = i then k else if r = k then i else r) c
/-- the first j columns of them have -/
def swK (F : Nat → Nat → Nat) (i k j r c : Nat) : Nat := if c < j then swF F i k r c else F r c
theorem swK_zero (F : Nat → Nat → Nat) (i k r c : Nat) : swK F i k 0 r c = F r c := by unfold swK; rw [if_neg (by omega)]
theorem swF_self (F : Nat → Nat → Nat) (i r c : Nat) : F r c = swF F i i r c := by
  unfold swF
  by_cases h : r = i
  · rw [if_pos h, h]
  · rw [if_neg h, if_neg h]
theorem swK_next (F : Nat → Nat → Nat) (i k j : Nat) (hik : i ≠ k) (r c : Nat) : stF (stF (swK F i k j) i j (F k j)) k j (F i j) r c = swK F i k (j + 1) r c := by
  unfold stF swK swF
  by_cases h1 : r = k ∧ c = j
  · obtain ⟨rfl, rfl⟩ := h1
    rw [if_pos ⟨rfl, rfl⟩, if_pos (by omega), if_neg (fun e => hik e.symm), if_pos rfl]
  · rw [if_neg h1]
    by_cases h2 : r = i ∧ c = j
    · obtain ⟨rfl, rfl⟩ := h2
      rw [if_pos ⟨rfl, rfl⟩, if_pos (by omega), if_pos rfl]
    · rw [if_neg h2]
      by_cases h3 : c < j
      · have h4 : c < j + 1 := by omega
        simp only [h3, h4, if_true]
      · by_cases h4 : c < j + 1
        · obtain rfl : c = j := by omega
          have n1 : ¬ r = i := fun e => h2 ⟨e, rfl⟩
          have n2 : ¬ r = k := fun e => h1 ⟨e, rfl⟩
          simp only [h3, h4, n1, n2, if_true, if_false]
        · simp only [h3, h4, if_false]
theorem swK_end (F : Nat → Nat → Nat) (i k C r c : Nat) (hc : c < C) : swK F i k C r c = swF F i k r c := by unfold swK; rw [if_pos hc]
theorem swK_at (F : Nat → Nat → Nat) (i k j r : Nat) : swK F i k j r j = F r j := by unfold swK; rw [if_neg (by omega)]
def RowsPost (w : World) (g R C : Nat) (F : Nat → Nat → Nat) (e : Ending) (w' : World) : Prop := e = .returned (.tuple #[]) ∧ MRow w' g R C F ∧ w.grownBy w' (some g)
attribute [local irreducible] gexp gtbl glog rmul rinv rpow zexp mixF blk wLoad wLoadRes loadAns wStore wStoreRes storeAns Plain flF BRow MRow
attribute [local go_sem ↓] ld_m0 ld_x0 sto_m0 sto_x0
attribute [local go_sem] ld_m ld_x sto_m sto_x loadAns_some storeAns_some mx_size mx_plain blk_alloc_if blk_setRow_if blk_drew_at blk_drewN_at rowPut_some blk_setCell_if cellPut_some
theorem beq_cast_f (i k : Nat) (h : i ≠ k) : (((i : Nat) : Int) == (k : Int)) = false := by simp; omega
theorem beq_cast_t (i : Nat) : (((i : Nat) : Int) == (i : Int)) = true := by simp
set_option maxHeartbeats 4000000 in
theorem m_swap (g R C i k cap : Nat) (F : Nat → Nat → Nat) (w : World) (hm : MRow w g R C F) (hi : i < R) (hk : k < R) (hR : R ≤ 255) (hC : C ≤ 255) (hc : R * C ≤ cap) :
    Calls Try.prog 37 #[.agg #[.int .i64 (R : Nat), .int .i64 (C : Nat), .slice (some ⟨g, 0, none⟩) (R * C) cap], .int .i64 (i : Nat), .int .i64 (k : Nat)] w (RowsPost w g R C (swF F i k)) := by
  have hgl := hm.lt
  have hB := below_one w (.cells #[.int .i64 (R : Nat), .int .i64 (C : Nat), .slice (some ⟨g, 0, none⟩) (R * C) cap] 24)
  have h0 := last_block0 w (.cells #[.int .i64 (R : Nat), .int .i64 (C : Nat), .slice (some ⟨g, 0, none⟩) (R * C) cap] 24) _ rfl
  have hsz : w.heap.size < (w.alloc (.cells #[.int .i64 (R : Nat), .int .i64 (C : Nat), .slice (some ⟨g, 0, none⟩) (R * C) cap] 24)).heap.size := by show _ < (w.heap.push _).size; rw [Array.size_push]; omega
  have hmh := Lib.hid hm
  have kri := Lib.hid (fun W => m_row R C i (some ⟨g, 0, none⟩) cap W (.inr ⟨g, 0, rfl⟩) hi hR hC hc)
  have krk := Lib.hid (fun W => m_row R C k (some ⟨g, 0, none⟩) cap W (.inr ⟨g, 0, rfl⟩) hk hR hC hc)
  have hsw := Lib.hid (fun (h : i ≠ k) j r c => swK_next F i k j h r c)
  have hsn := Lib.hid (fun j hj => idx_row (C := C) (R := R) (i := j) hj)
  have hA : Hid (∀ j, C ≠ 0 → rowA (some ⟨g, 0, none⟩) C j = some ⟨g, j * C, none⟩) := hide (fun j h => by rw [rowA_pos g 0 C j h, Nat.zero_add])
  clear hm
  by_cases hik : i = k
  · subst hik
    have t1 := beq_cast_t i
    go_enter Try.func37, Try.ntmps37
    go_upto_region 1 with (fail)
    generalize World.alloc w _ = W at *
    have hfin := Lib.hid ((hmh.out.below hB hgl).congr (fun r c _ _ => swF_self F i r c))
    have hBh := Lib.hid hB
    clear h0 hB
    go_wp2_with fail
    go_end0
    exact ⟨rfl, hfin.out, only_of_below hBh.out _⟩
  have t1 := beq_cast_f i k hik
  go_enter Try.func37, Try.ntmps37
  go_upto_region 1 with (fail)
  generalize World.alloc w _ = W at *
  have h0h := Lib.hid h0
  have hBh := Lib.hid hB
  have hmW := Lib.hid (hmh.out.below hB hgl)
  have hWl := hB.size
  clear h0 hB
  obtain ⟨A1, hA1⟩ : ∃ A1, rowA (some ⟨g, 0, none⟩) C i = A1 := ⟨_, rfl⟩
  obtain ⟨A2, hA2⟩ : ∃ A2, rowA (some ⟨g, 0, none⟩) C k = A2 := ⟨_, rfl⟩
  rw [hA1] at kri
  rw [hA2] at krk
  have hA1h := Lib.hid hA1
  have hA2h := Lib.hid hA2
  clear hA1 hA2
  obtain ⟨N, hNe⟩ : ∃ N, R * C = N := ⟨_, rfl⟩
  rw [hNe] at kri krk h0h
  have hN := Lib.hid hNe
  rw [hNe]
  clear hNe
  have hin : ∀ x : World, Below W.heap.size W x → (blk x w.heap.size = some (.cells #[.int .i64 (R : Nat), .int .i64 (C : Nat), .slice (some ⟨g, 0, none⟩) N cap] 24 (0, 0)) ∧ Below W.heap.size W x) := fun x hb =>
    ⟨by rw [blk_below hb hsz]; exact blk_of h0h.out, hb⟩
  have hclh := Lib.hid (fun (x x' : World) (h : blk x w.heap.size = some (.cells #[.int .i64 (R : Nat), .int .i64 (C : Nat), .slice (some ⟨g, 0, none⟩) N cap] 24 (0, 0)) ∧ Below W.heap.size W x) (hb : Below x.heap.size x x') => hin x' (below_step h.2 h.2.size hb))
  have hst := Lib.hid (hin W.drew (below_drewN (Below.refl _ _) 1))
  clear hin
  go_upto_region 2 with (fail)
  refine wp_region_quiet (C := fun x => blk x w.heap.size = some (.cells #[.int .i64 (R : Nat), .int .i64 (C : Nat), .slice (some ⟨g, 0, none⟩) N cap] 24 (0, 0)) ∧ Below W.heap.size W x) (by kernel_rfl) (by kernel_rfl) hst.out ?_
  repeat (first
    | (refine q_run (v := ?_) ?_ ?_ ?_
       rotate_left
       · rfl
       · (intro x hSx; (try dsimp only at hSx); go_simp <;> with_reducible rfl)
       simp only [Act.put, List.setIfInBounds_toArray, List.set_cons_zero, List.set_cons_succ])
    | (refine q_skip ?_ ?_
       · rfl
       simp only [Act.put, List.setIfInBounds_toArray, List.set_cons_zero, List.set_cons_succ])
    | (refine q_call (fun x _ => kri.out x) hclh.out ?_ ?_ ?_
       · rfl
       · (intro x hSx; (try dsimp only at hSx); go_simp <;> with_reducible rfl)
       simp only [Act.put, List.setIfInBounds_toArray, List.set_cons_zero, List.set_cons_succ])
    | (refine q_call (fun x _ => krk.out x) hclh.out ?_ ?_ ?_
       · rfl
       · (intro x hSx; (try dsimp only at hSx); go_simp <;> with_reducible rfl)
       simp only [Act.put, List.setIfInBounds_toArray, List.set_cons_zero, List.set_cons_succ]))
  refine wpQuiet_nil ?_
  intro x hSx
  have hBx := Lib.hid hSx.2
  clear hSx hclh hst
  go_upto_region 4 with (fail)
  have hmx : Hid (MRow x g R C (swK F i k 0)) := hide ((hmW.out.below hBx.out (by omega)).congr (fun r c _ _ => (swK_zero F i k r c).symm))
  go_loopw [20] (fun iv wr => ∃ j : Nat, j ≤ C ∧ iv = .int .i64 (j : Nat) ∧ Hid (MRow wr g R C (swK F i k j)) ∧ Hid (x.grownBy wr (some g))) (fun iv _ => C - (intOf iv).toNat)
  case atStart => exact ⟨0, Nat.zero_le _, rfl, hmx, hide (only_refl _ _)⟩
  case round =>
    obtain ⟨j, hj, rfl, hM, hG⟩ := hrel
    clear hmx
    by_cases hjC : j < C
    · have i1 : (j : Int) < (C : Int) := by omega
      have hC0 : C ≠ 0 := by omega
      have a1 := hA.out i hC0
      have a2 := hA.out k hC0
      rw [hA1h.out] at a1
      rw [hA2h.out] at a2
      have c1 := hM.out.cell i j hi hjC
      have c2 := hM.out.cell k j hk hjC
      rw [swK_at] at c1 c2
      have f1 := hM.out.fr (i * C + j)
      have f2 := hM.out.fr (k * C + j)
      have hne : ¬ k * C + j = i * C + j := fun e => hik (idx_inj hjC hjC e).1.symm
      have hne2 : ¬ i * C + j = k * C + j := fun e => hne e.symm
      have hset := Lib.hid (((hM.out.set i j (F k j) hjC).set k j (F i j) hjC).congr (fun r c _ _ => hsw.out hik j r c))
      have hG2 := Lib.hid (fun u v => only_set (only_set hG.out (i * C + j) u) (k * C + j) v)
      generalize F i j = xi at *
      generalize F k j = xk at *
      generalize i * C = p at *
      generalize k * C = q at *
      clear hC0
      subst a1 a2
      go_wp2_with fail
      go_region
      go_wp2_with fail
      go_roundw
      case rel => exact ⟨j + 1, by omega, by go_num, hide (hset.out.drewN 1), hide (only_drew (hG2.out _ _))⟩
      case measure => simp [intOf]; omega
    · obtain rfl : j = C := by omega
      have i1 : decide ((j : Int) < (j : Int)) = false := by simp
      have hMf := Lib.hid (hM.out.congr (fun r c _ hc => swK_end F i k j r c hc))
      go_wp2_with fail
      go_end0
      exact ⟨rfl, hMf.out, only_trans (only_of_below (hBh.out.trans (hBx.out.mono hWl)) _) hG.out⟩
end Go.Proofs.Ytkcalgolanpjaaa
