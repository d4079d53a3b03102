/- The contract of the document's Rank. Conditions: what the slice reads as. -/
import Derived.Test.YtkcalgolanpjaaaMat11
namespace Go.Proofs.Ytkcalgolanpjaaa
open Go.RowKit
theorem no_u8' (r c : Int) (s : Option Addr) (n m j : Nat) (x : Int) (h : (#[.int .i64 r, .int .i64 c, .slice s n m] : Array Value)[j]? = some (.int .u8 x)) : False := by
  rcases j with _ | _ | _ | j <;> simp at h
theorem mat_setBox {w : World} {a : Option Addr} {R C b : Nat} {F : Nat → Nat → Nat} {r c : Int} {s : Option Addr} {n m : Nat} {T : TypeId} {fr : Nat × Nat} (h : MAt w a R C F) (hb : w.heap[b]? = some (.cells #[.int .i64 r, .int .i64 c, .slice s n m] T fr)) (D : Array Value) : MAt (w.setRow b D) a R C F := by
  intro i k hi hk
  obtain ⟨bb, off, hs, hcc⟩ := h i k hi hk
  refine ⟨bb, off, hs, ?_⟩
  have hbl : bb ≠ b := fun e => by
    subst e
    have h3 := cell_of_block (i := off + (i * C + k)) hb
    rw [h3] at hcc
    exact no_u8' _ _ _ _ _ _ _ hcc
  have h4 : (w.setRow b D).heap[bb]? = w.heap[bb]? := setRow_other _ _ _ _ hbl
  rw [World.cell?_of_block (a := ⟨bb, off + (i * C + k), none⟩) h4]
  exact hcc
theorem rf_le (F : Nat → Nat → Nat) (R c : Nat) : (rfS F R c).1 ≤ R := by
  induction c with
  | zero => rw [rf_zero]; exact Nat.zero_le _
  | succ c ih =>
    by_cases h : (rfS F R c).1 < R ∧ pvF (rfS F R c).2 c R (rfS F R c).1 < R
    · rw [rf_yes F R c h.1 h.2]; show _ + 1 ≤ R; omega
    · rw [rf_no F R c h]; exact ih
theorem rf_yes1 (F : Nat → Nat → Nat) (R c : Nat) (h1 : (rfS F R c).1 < R) (h2 : pvF (rfS F R c).2 c R (rfS F R c).1 < R) : (rfS F R (c + 1)).1 = (rfS F R c).1 + 1 ∧ (rfS F R (c + 1)).2 = woF (swF (rfS F R c).2 (rfS F R c).1 (pvF (rfS F R c).2 c R (rfS F R c).1)) (rfS F R c).1 c := by rw [rf_yes F R c h1 h2]; exact ⟨rfl, rfl⟩
theorem beq_nz (x : Nat) (h : x ≠ 0) : (((x : Nat) : Int) == 0) = false := by simp; omega
attribute [local irreducible] gexp gtbl glog rmul rinv rpow zexp mixF blk wLoad wLoadRes loadAns wStore wStoreRes storeAns Plain flF BRow MRow elK elF IsGf rfS pvF clF swF OwnZ zfl woF MAt
attribute [local go_sem ↓] ld_m0 ld_x0 sto_m0 sto_x0
attribute [local go_sem] ld_m ld_x sto_m sto_x loadAns_some storeAns_some mx_size mx_plain blk_alloc_if blk_setRow_if blk_drew_at blk_drewN_at rowPut_some blk_setCell_if cellPut_some
set_option maxRecDepth 100000 in
set_option maxHeartbeats 8000000 in
theorem x_rank (R C : Nat) (a : Option Addr) (cap : Nat) (F : Nat → Nat → Nat) (w : World) (ha : MAt w a R C F) (hF : Bd2 F) (hR : R ≤ 255) (hC : C ≤ 255) :
    Calls Try.prog 17 #[.agg #[.int .i64 (R : Nat), .int .i64 (C : Nat), .slice a (R * C) cap]] w (Ret w (.int .i64 ((rfS F R C).1 : Nat))) := by
  have hB := below_one w (.cells #[.int .i64 (R : Nat), .int .i64 (C : Nat), .slice a (R * C) cap] 33)
  have h0 := last_block0 w (.cells #[.int .i64 (R : Nat), .int .i64 (C : Nat), .slice a (R * C) cap] 33) _ rfl
  have kat := Lib.hid (fun s cp i k G W (h : MAt W s R C G) (hi : i < R) (hk : k < C) => x_at R C i k G s cp W h hi hk hR hC)
  have ksw := Lib.hid (fun s cp n k G W (h : MAt W s R C G) (hn : n < R) (hk : k < R) => x_swapped R C n k s cp G W h hn hk hR hC)
  have kwo := Lib.hid (fun s cp n col G W (h : MAt W s R C G) (hG : Bd2 G) (hn : n < R) (hk : col < C) => x_without R C n col s cp G W h hG hn hk hR hC)
  have hah := Lib.hid ha
  have hrc := rc_le hR hC
  obtain ⟨N, hNe⟩ : ∃ N, R * C = N := ⟨_, rfl⟩
  have hNh := Lib.hid hNe
  rw [hNe] at kat ksw kwo h0 hB ⊢
  clear ha hNe
  go_enter Try.func17, Try.ntmps17
  go_upto_region 1 with (fail)
  generalize World.alloc w _ = W at *
  have h0h := Lib.hid h0
  have hBh := Lib.hid hB
  have hmW := Lib.hid (hah.out.below hB)
  have hg0 : Hid ((rfS F R 0).1 = 0) := hide (by rw [rf_zero])
  have hg1 : Hid (MAt W a R C (rfS F R 0).2) := hide (by rw [rf_zero]; exact hmW.out)
  clear h0 hB
  go_upto_region 3 with (fail)
  go_loopw [3, 4] (fun nv cv wr => ∃ (c : Nat) (s : Option Addr) (cp : Nat), c ≤ C ∧ cv = .int .i64 (c : Nat) ∧ nv = .int .i64 ((rfS F R c).1 : Nat) ∧ Hid (wr.heap[w.heap.size]? = some (.cells #[.int .i64 (R : Nat), .int .i64 (C : Nat), .slice s N cp] 33 (0, 0))) ∧ Hid (MAt wr s R C (rfS F R c).2) ∧ Hid (Below w.heap.size w wr)) (fun _ cv _ => C - (intOf cv).toNat)
  case atStart => exact ⟨0, a, cap, Nat.zero_le _, rfl, by rw [hg0.out]; rfl, h0h, hg1, hBh⟩
  case round =>
    obtain ⟨c, s, cp, hcC, rfl, rfl, hbx, hM, hL⟩ := hrel
    clear hg0 hg1 h0h hmW hBh
    have hle := rf_le F R c
    have c1 : wr.cell? ⟨w.heap.size, 1, none⟩ = some (.int .i64 (C : Nat)) := (cell_of_block hbx.out).trans rfl
    have c0 : wr.cell? ⟨w.heap.size, 0, none⟩ = some (.int .i64 (R : Nat)) := (cell_of_block hbx.out).trans rfl
    by_cases hlt : c < C
    · have i1 : decide ((c : Int) < (C : Int)) = true := decide_eq_true (by omega)
      by_cases hn : (rfS F R c).1 < R
      · obtain ⟨p1, p2, p3, p4⟩ := pv_facts (rfS F R c).2 c R (rfS F R c).1 (by omega)
        have hyes := Lib.hid (fun h2 => rf_yes1 F R c hn h2)
        have hno := Lib.hid (fun (h : ¬ pvF (rfS F R c).2 c R (rfS F R c).1 < R) => rf_no F R c (fun h2 => h h2.2))
        have hbd := Lib.hid (rf_bd F hF R c)
        have i2 : decide ((((rfS F R c).1 : Nat) : Int) < (R : Int)) = true := decide_eq_true (by omega)
        have hp3 := Lib.hid p3
        have hp4 := Lib.hid p4
        clear p3 p4
        generalize hkp : pvF (rfS F R c).2 c R (rfS F R c).1 = kp at *
        clear hkp
        obtain ⟨n, hne⟩ : ∃ n, (rfS F R c).1 = n := ⟨_, rfl⟩
        rw [hne] at hyes hp4 i2 p1 hn hle ⊢
        have hnh := Lib.hid hne
        clear hne
        obtain ⟨u0, hu0⟩ : ∃ u0, wr = u0 := ⟨_, rfl⟩
        subst hu0
        generalize wr = u0 at *
        go_upto_region 6 with (fail)
        go_loopw [5] (fun kv wr => ∃ k : Nat, n ≤ k ∧ k ≤ kp ∧ kv = .int .i64 (k : Nat) ∧ Hid (Below u0.heap.size u0 wr)) (fun kv _ => kp - (intOf kv).toNat)
        case atStart => exact ⟨n, Nat.le_refl _, p1, rfl, hide (Below.refl _ _)⟩
        case round =>
          obtain ⟨k, hk1, hk2, rfl, hB1⟩ := hrel
          have hul : w.heap.size < u0.heap.size := (Array.getElem?_eq_some_iff.1 hbx.out).1
          have hbr := (hB1.out.block _ hul).trans hbx.out
          have b0 := blk_of hbr
          have c0r : wr.cell? ⟨w.heap.size, 0, none⟩ = some (.int .i64 (R : Nat)) := (cell_of_block hbr).trans rfl
          have hMr := Lib.hid (hM.out.below hB1.out)
          have hLr := Lib.hid (below_step hL.out hL.out.size hB1.out)
          clear c1 c0
          by_cases hkk : k < kp
          · have j1 : decide ((k : Int) < (R : Int)) = true := decide_eq_true (by omega)
            have ka := Lib.hid (kat.out s cp k c (rfS F R c).2 wr hMr.out (by omega) hlt)
            rw [hp4.out k hk1 hkk] at ka
            clear hbr
            go_wp2_with fail
            refine ka.out.mono ?_
            rintro e w5 ⟨rfl, hb5⟩
            have hB5 := Lib.hid (below_step hB1.out hB1.out.size hb5)
            clear hb5
            go_wp2_with fail
            go_roundw
            case rel => exact ⟨k + 1, by omega, by omega, by go_num, hB5⟩
            case measure => simp [intOf]; omega
          · obtain rfl : k = kp := by omega
            by_cases hkR : k < R
            · have j1 : decide ((k : Int) < (R : Int)) = true := decide_eq_true (by omega)
              have ka := Lib.hid (kat.out s cp k c (rfS F R c).2 wr hMr.out hkR hlt)
              have t1 := beq_nz _ (hp3.out hkR)
              have hy1 := Lib.hid (hyes.out hkR)
              have t2 := beq_cast_f k R (by omega)
              generalize hxx : (rfS F R c).2 k c = x at *
              clear hxx
              have hxt := Lib.hid t1
              clear hbr
              go_wp2_with fail
              refine ka.out.mono ?_
              rintro e w5 ⟨rfl, hb5⟩
              have hwl : w.heap.size < wr.heap.size := (Array.getElem?_eq_some_iff.1 (blk_heap b0)).1
              have hbr5 := (hb5.block _ hwl).trans (blk_heap b0)
              have b5 := blk_of hbr5
              have c05 : w5.cell? ⟨w.heap.size, 0, none⟩ = some (.int .i64 (R : Nat)) := (cell_of_block hbr5).trans rfl
              have hM5 := Lib.hid (hMr.out.below hb5)
              have hL5 := Lib.hid (below_step hLr.out hLr.out.size hb5)
              have ks := Lib.hid (ksw.out s cp n k (rfS F R c).2 w5 hM5.out hn hkR)
              clear hb5 hbr5 b0 c0r
              go_wp2_with fail
              refine ks.out.mono ?_
              rintro e w6 ⟨s6, cp6, rfl, hm6, hnil6, hc6, hb6⟩
              rw [hNh.out] at hc6 hnil6 ⊢
              have kw := Lib.hid (kwo.out s6 cp6 n c _ w6 hm6 (sw_bd hbd.out n k) hn hlt)
              have hwl5 : w.heap.size < w5.heap.size := (Array.getElem?_eq_some_iff.1 (blk_heap b5)).1
              have hbr6 := Lib.hid ((hb6.block _ hwl5).trans (blk_heap b5))
              have hL6 := Lib.hid (below_step hL5.out hL5.out.size hb6)
              have hb6h := Lib.hid hb6
              clear hm6 hb6 b5 c05
              go_wp2_with fail
              refine kw.out.mono ?_
              rintro e w7 ⟨s7, cp7, rfl, hm7, hnil7, hc7, hb7⟩
              rw [hNh.out] at hc7 hnil7 ⊢
              have hwl6 : w.heap.size < w6.heap.size := (Array.getElem?_eq_some_iff.1 hbr6.out).1
              have hbr7 := (hb7.block _ hwl6).trans hbr6.out
              have b7 := blk_of hbr7
              have hL7 := Lib.hid (below_step hL6.out hL6.out.size hb7)
              have hfin : Hid (∀ D, MAt (w7.setRow w.heap.size D) s7 R C (rfS F R (c + 1)).2) := hide (fun D => by rw [hy1.out.2]; exact mat_setBox hm7 hbr7 D)
              have hfin2 : Hid (∀ D, (w7.setRow w.heap.size D).heap[w.heap.size]? = some (.cells D 33 (0, 0))) := hide (fun D => setRow_heap _ _ _ _ _ _ hbr7)
              have hfin3 : Hid (∀ D, Below w.heap.size w (w7.setRow w.heap.size D)) := hide (fun D => below_setRow hL7.out (Nat.le_refl _) D)
              clear hm7 hb7 hbr7
              go_wp2_with fail
              go_roundw
              case rel => exact ⟨c + 1, s7, cp7, by omega, by go_num, by rw [hy1.out.1]; go_num, hide (hfin2.out _), hide (hfin.out _), hide (hfin3.out _)⟩
              case measure => simp [intOf]; omega
            · obtain rfl : k = R := by omega
              have j1 : decide ((k : Int) < (k : Int)) = false := by simp
              have t2 := beq_cast_t k
              have hs := Lib.hid (hno.out (by omega))
              have hMn : Hid (MAt wr s k C (rfS F k (c + 1)).2) := hide (by rw [hs.out]; exact hMr.out)
              have hbrh := Lib.hid hbr
              clear hbr
              go_wp2_with fail
              go_roundw
              case rel => exact ⟨c + 1, s, cp, by omega, by go_num, by rw [hs.out, hnh.out], hbrh, hMn, hLr⟩
              case measure => simp [intOf]; omega
      · have hfull : Hid ((rfS F R C).1 = (rfS F R c).1) := hide (by
          have h1 : (rfS F R c).1 = R := by omega
          have h2 := rf_full F R c h1 (C - c)
          rw [show c + (C - c) = C by omega] at h2
          rw [h2])
        have i2 : decide ((((rfS F R c).1 : Nat) : Int) < (R : Int)) = false := decide_eq_false (by omega)
        have i2' : decide ((rfS F R c).1 < R) = false := decide_eq_false hn
        generalize (rfS F R c).1 = q at *
        go_wp2_with fail
        go_ret
        exact ⟨by rw [hfull.out]; rfl, hL.out⟩
    · obtain rfl : c = C := by omega
      have i1 : decide ((c : Int) < (c : Int)) = false := by simp
      go_wp2_with fail
      go_ret
      exact ⟨rfl, hL.out⟩
end Go.Proofs.Ytkcalgolanpjaaa
