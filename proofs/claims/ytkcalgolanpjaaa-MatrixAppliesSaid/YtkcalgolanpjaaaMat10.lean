/- The contracts of the document's swapped, Same, of the law's ref and none. Conditions: what the slices read as. -/
import Derived.Test.YtkcalgolanpjaaaMat9
namespace Go.Proofs.Ytkcalgolanpjaaa
open Go.RowKit
theorem infoInt : (Try.prog.info? 3).map (fun i => (i.zero, i.size, i.bytes)) = some (some (.int .i64 0), 1, 8) := by kernel_rfl
/-- no byte lies in a matrix's box -/
theorem no_u8 (j : Nat) (x : Int) (h : (#[.int .i64 0, .int .i64 0, .slice none 0 0] : Array Value)[j]? = some (.int .u8 x)) : False := by
  rcases j with _ | _ | _ | j <;> simp at h
/-- where row r of the swapped one lies -/
def swJ (i k r : Nat) : Nat := if r = i then k else if r = k then i else r
theorem pk_sw (F : Nat → Nat → Nat) (i k r c : Nat) : pkF F (swJ i k) r c = swF F i k r c := by unfold pkF swJ swF; rfl
theorem swJ_lt (i k R r : Nat) (hi : i < R) (hk : k < R) (hr : r < R) : swJ i k r < R := by unfold swJ; split; exact hk; split; exact hi; exact hr
attribute [local irreducible] gexp gtbl glog rmul rinv rpow zexp mixF blk wLoad wLoadRes loadAns wStore wStoreRes storeAns Plain flF BRow MRow elK elF IsGf ivS gjS pvF clF swF OwnZ zfl
attribute [local go_sem ↓] ld_m0 ld_x0 sto_m0 sto_x0
attribute [local go_sem] ld_m ld_x sto_m sto_x loadAns_some storeAns_some mx_size mx_plain blk_alloc_if blk_setRow_if blk_drew_at blk_drewN_at rowPut_some
set_option maxHeartbeats 8000000 in
theorem x_swapped (R C i k : Nat) (a : Option Addr) (cap : Nat) (F : Nat → Nat → Nat) (w : World) (ha : MAt w a R C F) (hi : i < R) (hk : k < R) (hR : R ≤ 255) (hC : C ≤ 255) :
    Calls Try.prog 40 #[.agg #[.int .i64 (R : Nat), .int .i64 (C : Nat), .slice a (R * C) cap], .int .i64 (i : Nat), .int .i64 (k : Nat)] w (XPost w R C (swF F i k)) := by
  have hz := zeroX
  obtain ⟨h0, h1, hsz, hB⟩ := two_allocs w (.cells #[.int .i64 (R : Nat), .int .i64 (C : Nat), .slice a (R * C) cap] 33) (.cells #[.int .i64 0, .int .i64 0, .slice none 0 0] 33)
  have kp := Lib.hid (fun rs rc W (h : MAt W a R C F) (hr : ZAt W .i64 rs R (fun r => (swJ i k r : Nat))) => x_pick R C R a rs cap rc F (swJ i k) W h hr (fun r hr => swJ_lt i k R r hi hk hr) hR hR hC)
  have hah := Lib.hid ha
  have hrc := rc_le hR hC
  obtain ⟨N, hNe⟩ : ∃ N, R * C = N := ⟨_, rfl⟩
  rw [hNe] at kp h0 ⊢
  rw [hNe] at hB h1 hsz
  have hNh := Lib.hid hNe
  clear ha hNe
  go_enter Try.func40, Try.ntmps40
  go_upto_region 1 with (fail)
  generalize World.alloc (World.alloc w _) _ = W at *
  have hx0 : w.heap.size < W.heap.size := by omega
  have hx1 : w.heap.size + 1 < W.heap.size := by omega
  have h0h := Lib.hid (blk_of h0)
  have h1h := Lib.hid h1
  have hBh := Lib.hid hB
  have hwW : w.heap.size ≤ W.heap.size := by omega
  clear h0 h1 hsz hB
  go_upto_region 3 with (fail)
  go_loopw [7, 8] (fun ov nv wr => ∃ n : Nat, n ≤ R ∧ nv = .int .i64 (n : Nat) ∧ Hid (OwnZ wr W.heap.size 3 .i64 ov n (fun r => (swJ i k r : Nat))) ∧ Hid (Below W.heap.size W wr)) (fun _ nv _ => R - (intOf nv).toNat)
  case atStart => exact ⟨0, Nat.zero_le _, rfl, hide (OwnZ.nil _ _ _ _ _), hide (Below.refl _ _)⟩
  case round =>
    obtain ⟨n, hn, rfl, hO, hL⟩ := hrel
    have b0 := (blk_below hL.out hx0).trans h0h.out
    have c0 : wr.cell? ⟨w.heap.size, 0, none⟩ = some (.int .i64 (R : Nat)) := (cell_of_block (blk_heap b0)).trans rfl
    by_cases hnR : n < R
    · have i1 : (n : Int) < (R : Int) := by omega
      have hsz := hL.out.size
      by_cases h1 : n = i
      · have t1 : (((n : Nat) : Int) == (i : Int)) = true := by subst h1; exact beq_cast_t n
        have hv : swJ i k n = k := by unfold swJ; rw [if_pos h1]
        have hvh : ((k : Nat) : Int) = (fun r => ((swJ i k r : Nat) : Int)) n := by show _ = ((swJ i k n : Nat) : Int); rw [hv]
        have hvv := Lib.hid hvh
        clear hv hvh b0
        go_wp2_with (at_builtin; refine wpList_snocX Try.underlying48 infoInt (by decide) rfl (.tmp 23) (.tmp 25) rfl wr _ W.heap.size n (fun r => (swJ i k r : Nat)) (k : Nat) hvv.out rfl rfl rfl hO.out (by omega) hsz ?_; intro v' w6 ho hgr; have hO6 := Lib.hid ho; have hL6 := Lib.hid (below_grown hL.out (Nat.le_refl _) hgr (fun b hb => (hO.out.lt b hb).1)); clear ho hgr)
        go_roundw
        case rel => exact ⟨n + 1, by omega, by go_num, hO6, hL6⟩
        case measure => simp [intOf]; omega
      · have t1 := beq_cast_f n i h1
        by_cases h2 : n = k
        · have t2 : (((n : Nat) : Int) == (k : Int)) = true := by subst h2; exact beq_cast_t n
          have hv : swJ i k n = i := by unfold swJ; rw [if_neg h1, if_pos h2]
          have hvh : ((i : Nat) : Int) = (fun r => ((swJ i k r : Nat) : Int)) n := by show _ = ((swJ i k n : Nat) : Int); rw [hv]
          have hvv := Lib.hid hvh
          clear hv hvh b0
          go_wp2_with (at_builtin; refine wpList_snocX Try.underlying48 infoInt (by decide) rfl (.tmp 30) (.tmp 32) rfl wr _ W.heap.size n (fun r => (swJ i k r : Nat)) (i : Nat) hvv.out rfl rfl rfl hO.out (by omega) hsz ?_; intro v' w6 ho hgr; have hO6 := Lib.hid ho; have hL6 := Lib.hid (below_grown hL.out (Nat.le_refl _) hgr (fun b hb => (hO.out.lt b hb).1)); clear ho hgr)
          go_roundw
          case rel => exact ⟨n + 1, by omega, by go_num, hO6, hL6⟩
          case measure => simp [intOf]; omega
        · have t2 := beq_cast_f n k h2
          have hv : swJ i k n = n := by unfold swJ; rw [if_neg h1, if_neg h2]
          have hvh : ((n : Nat) : Int) = (fun r => ((swJ i k r : Nat) : Int)) n := by show _ = ((swJ i k n : Nat) : Int); rw [hv]
          have hvv := Lib.hid hvh
          clear hv hvh b0
          go_wp2_with (at_builtin; refine wpList_snocX Try.underlying48 infoInt (by decide) rfl (.tmp 16) (.tmp 18) rfl wr _ W.heap.size n (fun r => (swJ i k r : Nat)) (n : Nat) hvv.out rfl rfl rfl hO.out (by omega) hsz ?_; intro v' w6 ho hgr; have hO6 := Lib.hid ho; have hL6 := Lib.hid (below_grown hL.out (Nat.le_refl _) hgr (fun b hb => (hO.out.lt b hb).1)); clear ho hgr)
          go_roundw
          case rel => exact ⟨n + 1, by omega, by go_num, hO6, hL6⟩
          case measure => simp [intOf]; omega
    · obtain rfl : n = R := by omega
      have i1 : decide ((n : Int) < (n : Int)) = false := by simp
      obtain ⟨rs, rc, rfl, hz9, _⟩ := hO.out.open
      have kp2 := Lib.hid (kp.out rs rc wr (hah.out.below (hBh.out.trans (hL.out.mono hwW))) hz9)
      have hs1 := hL.out.size
      clear hz9
      go_wp2_with fail
      refine kp2.out.mono ?_
      rintro e w5 ⟨s5, c5, rfl, hm5, hnil5, hc5, hb5⟩
      have hb1 := (hb5.block _ (by omega)).trans ((hL.out.block _ hx1).trans h1h.out)
      have hb1b := blk_of hb1
      have hb1h := Lib.hid hb1
      have hlo := Lib.hid (hBh.out.trans ((below_step hL.out hL.out.size hb5).mono hwW))
      have hmat := Lib.hid (hm5)
      have hlt : ∀ D, MAt (w5.setRow (w.heap.size + 1) D) s5 n C (swF F i k) := fun D r c hr hc => by
        obtain ⟨b, off, hs, hcc⟩ := hmat.out r c hr hc
        refine ⟨b, off, hs, ?_⟩
        have hbl : b ≠ w.heap.size + 1 := fun e => by
          subst e
          have h3 := cell_of_block (i := off + (r * C + c)) hb1
          rw [h3] at hcc
          exact no_u8 _ _ hcc
        have h4 : (w5.setRow (w.heap.size + 1) D).heap[b]? = w5.heap[b]? := setRow_other _ _ _ _ hbl
        rw [World.cell?_of_block (a := ⟨b, off + (r * C + c), none⟩) h4, ← pk_sw]
        exact hcc
      have hlth := Lib.hid hlt
      rw [hNh.out] at hnil5 hc5
      clear hb1 hlt hm5 hb5
      rw [hNh.out]
      go_wp2_with fail
      refine bodyPost_ret (v := .agg #[.int .i64 (n : Nat), .int .i64 (C : Nat), .slice s5 N c5]) (results_cell_row rfl _ _ (w.heap.size + 1) 33 _ (0, 0) _ rfl (setRow_heap _ _ _ _ _ _ hb1h.out) Try.underlying33 rfl rx_info) rfl ⟨s5, c5, by rw [hNh.out], hlth.out _, by rw [hNh.out]; exact hnil5, by rw [hNh.out]; exact hc5, below_setRow hlo.out (by omega) _⟩
end Go.Proofs.Ytkcalgolanpjaaa
