import Derived.Test.YtmfagdbocidfjaaV16
/- The contracts of the law's ref, none, small of layer 5, of the document's Same, of package matrix's Powers. Conditions: what the slices read as. -/
namespace Go.Proofs.Ytmfagdbocidfjaa
open Go.RowKit
set_option maxRecDepth 100000 in
theorem gpow_nat (a k : Nat) (ha : a < 256) : gpowr a (k : Int) = rpow a k := by
  unfold gpowr
  by_cases h0 : k = 0
  · subst h0; rfl
  · rw [if_neg (by omega)]
    by_cases a0 : a = 0
    · subst a0
      rw [if_pos rfl]
      obtain ⟨j, rfl⟩ : ∃ j, k = j + 1 := ⟨k - 1, by omega⟩
      rw [rpow_succ, rmul_zero_right]
    · rw [if_neg a0, rpow_log a k ha a0, zexp_eq]
      have e : (((glog a : Nat) : Int) * ((k : Int).tmod 255)) % 255 = (((glog a * k) % 255 : Nat) : Int) := by
        rw [Int.tmod_eq_emod_of_nonneg (by omega)]
        rw [Int.mul_emod, Int.emod_emod_of_dvd _ (by decide : (255 : Int) ∣ 255), ← Int.mul_emod]
        rw [← Int.natCast_mul]
        omega
      rw [e, Int.toNat_natCast, gexp_mod]
/-- powers of elements -/
def pwF (i k : Nat) : Nat := rpow i k
set_option maxRecDepth 100000 in
theorem pw_bd : Bd2 pwF := fun _ _ => rpow_lt _ _
/-- the elements ahead of (i, k) are there -/
def pwP (i k r c : Nat) : Nat := if r < i ∨ (r = i ∧ c < k) then pwF r c else 0
set_option maxRecDepth 100000 in
theorem pwP_next (i k r c : Nat) : stF (pwP i k) i k (rpow i k) r c = pwP i (k + 1) r c := by
  unfold stF pwP pwF
  by_cases h : r = i ∧ c = k
  · obtain ⟨rfl, rfl⟩ := h
    rw [if_pos ⟨rfl, rfl⟩, if_pos (by omega)]
  · rw [if_neg h]
    by_cases h2 : r < i ∨ (r = i ∧ c < k)
    · rw [if_pos h2, if_pos (by omega)]
    · rw [if_neg h2, if_neg (by omega)]
set_option maxRecDepth 100000 in
theorem pwP_row (i C r c : Nat) (hc : c < C) : pwP i C r c = pwP (i + 1) 0 r c := by
  unfold pwP
  by_cases h2 : r < i ∨ (r = i ∧ c < C)
  · rw [if_pos h2, if_pos (by omega)]
  · rw [if_neg h2, if_neg (by omega)]
set_option maxRecDepth 100000 in
theorem pwP_end (R r c : Nat) (hr : r < R) : pwP R 0 r c = pwF r c := by unfold pwP; rw [if_pos (by omega)]
set_option maxRecDepth 100000 in
theorem pwP_zero (r c : Nat) : (0 : Nat) = pwP 0 0 r c := by unfold pwP; rw [if_neg (by omega)]
set_option maxRecDepth 100000 in
theorem byteW (i : Nat) (h : i < 256) : IntKind.u8.wrap (i : Int) = (i : Int) := by rw [IntKind.wrap_u8]; omega
set_option maxRecDepth 100000 in
theorem By.get {w : World} {s : Option Addr} {n k : Nat} {f : Nat → Nat} (h : By w s n f) (hk : k < n) : ∃ b off, s = some ⟨b, off, none⟩ ∧ w.cell? ⟨b, off + k, none⟩ = Option.some (.int .u8 (f k : Nat)) := h k hk
attribute [local irreducible] gexp gtbl glog rmul rinv rpow zexp mixF blk wLoad wLoadRes loadAns wStore wStoreRes storeAns Plain flF BRow MRow IsGf pwP MAt By gpowr
attribute [local go_sem ↓] ld_m0 sto_m0
attribute [local go_sem] ld_m sto_m loadAns_some storeAns_some mx_size mx_plain blk_alloc_if blk_setRow_if blk_drew_at blk_drewN_at rowPut_some blk_setCell_if cellPut_some
def SmPost (w : World) (r c : Int) (len : Nat) (e : Ending) (w' : World) : Prop := ∃ b, e = .returned (.bool b) ∧ Below w.heap.size w w' ∧ (b = true → len ≤ 400)
set_option maxRecDepth 100000 in
set_option maxHeartbeats 4000000 in
theorem m_powers (p R C : Nat) (w : World) (hp : IsGf w p) (hR : R ≤ 255) (hC : C ≤ 255) :
    Calls Try.prog 97 #[.pointer (some ⟨p, 0, none⟩), .int .i64 (R : Nat), .int .i64 (C : Nat)] w (NewMPost w R C pwF) := by
  have hz := zeroM
  have kn := Lib.hid (fun W => m_new R C W hR hC)
  have hB := below_one w (.cells #[.int .i64 0, .int .i64 0, .slice none 0 0] 188)
  have h0 := last_block0 w (.cells #[.int .i64 0, .int .i64 0, .slice none 0 0] 188) _ rfl
  have hsz : w.heap.size < (w.alloc (.cells #[.int .i64 0, .int .i64 0, .slice none 0 0] 188)).heap.size := by show _ < (w.heap.push _).size; rw [Array.size_push]; omega
  have hrc := rc_le hR hC
  have hidx := Lib.hid (fun i k (h : i < R) (hk : k < C) => idx_lt h hk)
  have hph := Lib.hid hp
  have hpl := hp.lt
  have kpw := Lib.hid (fun (i k : Nat) W (h : IsGf W p) (hi : i < 256) (hk : k < 256) => gf_pow p i (k : Int) W h hi ⟨by omega, by omega⟩)
  clear hp
  obtain ⟨N, hNe⟩ : ∃ N, R * C = N := ⟨_, rfl⟩
  have hN := Lib.hid hNe
  rw [hNe] at hidx hrc
  have hrc2 : N ≤ 100000 := Nat.le_trans hrc (by decide)
  clear hNe hrc
  go_enter Try.func97, Try.ntmps97
  go_upto_region 1 with (fail)
  generalize World.alloc w _ = W at *
  have h0h := Lib.hid h0
  have hBh := Lib.hid hB
  have hpW := Lib.hid (hph.out.below hB hpl)
  clear h0 hB
  go_wp2_with fail
  refine (kn.out W).mono ?_
  rintro e w2 ⟨g, rfl, hg, hm, hb2⟩
  have hmh := Lib.hid hm
  have hb2h := Lib.hid hb2
  have hp2 := Lib.hid (hpW.out.below hb2 hpW.out.lt)
  have hgl := hm.lt
  have hWl := hb2.size
  clear hm hb2
  rw [hN.out]
  go_upto_region 5 with (fail)
  obtain ⟨x0, x1, x2⟩ := boxed w2 #[.int .i64 0, .int .i64 0, .slice none 0 0] #[.int .i64 (R : Nat), .int .i64 (C : Nat), .slice (some ⟨g, 0, none⟩) N N] 188
  generalize World.setRow (World.alloc w2 _) _ _ = X at *
  have hmX : Hid (MRow X g R C (pwP 0 0)) := hide (((hmh.out.below x2 hgl)).congr (fun i k _ _ => pwP_zero i k))
  have hpX := Lib.hid (hp2.out.below x2 hp2.out.lt)
  have hx1 : w2.heap.size < X.heap.size := by omega
  have hx0 := Lib.hid x0
  have hx2 := Lib.hid x2
  have hpg : p ≠ g := by omega
  have hbg : w2.heap.size ≠ g := by omega
  clear x0 x1 x2
  go_loopw [23] (fun iv wr => ∃ i : Nat, i ≤ R ∧ iv = .int .i64 (i : Nat) ∧ Hid (MRow wr g R C (pwP i 0)) ∧ Hid (X.grownBy wr (some g))) (fun iv _ => R - (intOf iv).toNat)
  case atStart => exact ⟨0, Nat.zero_le _, rfl, hmX, hide (only_refl _ _)⟩
  case round =>
    obtain ⟨i, hi, rfl, hM, hG⟩ := hrel
    clear hmX
    by_cases hiR : i < R
    · have i1 : (i : Int) < (R : Int) := by omega
      have hw8 := byteW i (by omega)
      obtain ⟨u0, hu0⟩ : ∃ u0, wr = u0 := ⟨_, rfl⟩
      subst hu0
      generalize wr = u0 at *
      go_upto_region 8 with (fail)
      go_loopw [27] (fun kv wr => ∃ k : Nat, k ≤ C ∧ kv = .int .i64 (k : Nat) ∧ Hid (MRow wr g R C (pwP i k)) ∧ Hid (X.grownBy wr (some g))) (fun kv _ => C - (intOf kv).toNat)
      case atStart => exact ⟨0, Nat.zero_le _, rfl, hM, hG⟩
      case round =>
        obtain ⟨k, hk, rfl, hM1, hG1⟩ := hrel
        by_cases hkC : k < C
        · have i2 : (k : Int) < (C : Int) := by omega
          have hq := hidx.out i k hiR hkC
          have e3 := (idx_walk i C k N hq hrc2).1
          have l1 := (idx_walk i C k N hq hrc2).2.2.1
          have e6 := (idx_walk i C k N hq hrc2).2.2.2.2
          have e5 := (idx_walk i C k N hq hrc2).2.2.2.1
          have hbx : Hid (∀ y, X.grownBy y (some g) → y.cell? ⟨w2.heap.size, 2, none⟩ = some (.slice (some ⟨g, 0, none⟩) N N)) := hide (fun y hy =>
            (cell_of_block ((hy.block w2.heap.size hx1 (by intro e; injection e with e; exact hbg e)).trans hx0.out)).trans rfl)
          have hG2 := Lib.hid (only_drewN hG1.out 1)
          have hM2 := Lib.hid (hM1.out.drewN 1)
          have hpy : Hid (∀ y, X.grownBy y (some g) → IsGf y p) := hide (fun y hy => hpX.out.kept hy hpg)
          have hpv := gpow_nat i k (by omega)
          have kp1 := Lib.hid (fun y hy => kpw.out i k y (hpy.out y hy) (by omega) (by omega))
          rw [hpv] at kp1
          have hnx := Lib.hid (fun r c => pwP_next i k r c)
          obtain ⟨q, hqe⟩ : ∃ q, i * C = q := ⟨_, rfl⟩
          rw [hqe] at e3 l1 e6 e5
          have l2 : 0 ≤ (q : Int) + (k : Int) := by omega
          have hqq := Lib.hid hqe
          clear hqe hq hpv
          generalize rpow i k = x at *
          go_upto_region 10 with (fail)
          refine h_begin 17 (fun y : World => y.cell? ⟨w2.heap.size, 2, none⟩ = some (.slice (some ⟨g, 0, none⟩) N N)) rfl (by kernel_rfl) (hbx.out _ hG2.out) ?_
          have hHeld : (fun y : World => y.cell? ⟨w2.heap.size, 2, none⟩ = some (.slice (some ⟨g, 0, none⟩) N N)) wr.drew := hbx.out _ hG2.out
          first
            | (refine h_run (i := 0) (v := ?_) hHeld rfl (by kernel_rfl) (by kernel_rfl) (by kernel_rfl) ?_ ?_ ?_
               rotate_left
               · rfl
               · (intro x hSx; (try dsimp only at hSx); go_simp <;> with_reducible rfl)
               simp only [Act.put, List.setIfInBounds_toArray, List.set_cons_zero, List.set_cons_succ])
            | (refine h_skip (i := 0) hHeld rfl (by kernel_rfl) (by kernel_rfl) (by kernel_rfl) ?_ ?_
               · rfl
               simp only [Act.put, List.setIfInBounds_toArray, List.set_cons_zero, List.set_cons_succ])
          first
            | (refine h_run (i := 1) (v := ?_) hHeld rfl (by kernel_rfl) (by kernel_rfl) (by kernel_rfl) ?_ ?_ ?_
               rotate_left
               · rfl
               · (intro x hSx; (try dsimp only at hSx); go_simp <;> with_reducible rfl)
               simp only [Act.put, List.setIfInBounds_toArray, List.set_cons_zero, List.set_cons_succ])
            | (refine h_skip (i := 1) hHeld rfl (by kernel_rfl) (by kernel_rfl) (by kernel_rfl) ?_ ?_
               · rfl
               simp only [Act.put, List.setIfInBounds_toArray, List.set_cons_zero, List.set_cons_succ])
          first
            | (refine h_run (i := 2) (v := ?_) hHeld rfl (by kernel_rfl) (by kernel_rfl) (by kernel_rfl) ?_ ?_ ?_
               rotate_left
               · rfl
               · (intro x hSx; (try dsimp only at hSx); go_simp <;> with_reducible rfl)
               simp only [Act.put, List.setIfInBounds_toArray, List.set_cons_zero, List.set_cons_succ])
            | (refine h_skip (i := 2) hHeld rfl (by kernel_rfl) (by kernel_rfl) (by kernel_rfl) ?_ ?_
               · rfl
               simp only [Act.put, List.setIfInBounds_toArray, List.set_cons_zero, List.set_cons_succ])
          first
            | (refine h_run (i := 3) (v := ?_) hHeld rfl (by kernel_rfl) (by kernel_rfl) (by kernel_rfl) ?_ ?_ ?_
               rotate_left
               · rfl
               · (intro x hSx; (try dsimp only at hSx); go_simp <;> with_reducible rfl)
               simp only [Act.put, List.setIfInBounds_toArray, List.set_cons_zero, List.set_cons_succ])
            | (refine h_skip (i := 3) hHeld rfl (by kernel_rfl) (by kernel_rfl) (by kernel_rfl) ?_ ?_
               · rfl
               simp only [Act.put, List.setIfInBounds_toArray, List.set_cons_zero, List.set_cons_succ])
          first
            | (refine h_run (i := 4) (v := ?_) hHeld rfl (by kernel_rfl) (by kernel_rfl) (by kernel_rfl) ?_ ?_ ?_
               rotate_left
               · rfl
               · (intro x hSx; (try dsimp only at hSx); go_simp <;> with_reducible rfl)
               simp only [Act.put, List.setIfInBounds_toArray, List.set_cons_zero, List.set_cons_succ])
            | (refine h_skip (i := 4) hHeld rfl (by kernel_rfl) (by kernel_rfl) (by kernel_rfl) ?_ ?_
               · rfl
               simp only [Act.put, List.setIfInBounds_toArray, List.set_cons_zero, List.set_cons_succ])
          first
            | (refine h_run (i := 5) (v := ?_) hHeld rfl (by kernel_rfl) (by kernel_rfl) (by kernel_rfl) ?_ ?_ ?_
               rotate_left
               · rfl
               · (intro x hSx; (try dsimp only at hSx); go_simp <;> with_reducible rfl)
               simp only [Act.put, List.setIfInBounds_toArray, List.set_cons_zero, List.set_cons_succ])
            | (refine h_skip (i := 5) hHeld rfl (by kernel_rfl) (by kernel_rfl) (by kernel_rfl) ?_ ?_
               · rfl
               simp only [Act.put, List.setIfInBounds_toArray, List.set_cons_zero, List.set_cons_succ])
          first
            | (refine h_run (i := 6) (v := ?_) hHeld rfl (by kernel_rfl) (by kernel_rfl) (by kernel_rfl) ?_ ?_ ?_
               rotate_left
               · rfl
               · (intro x hSx; (try dsimp only at hSx); go_simp <;> with_reducible rfl)
               simp only [Act.put, List.setIfInBounds_toArray, List.set_cons_zero, List.set_cons_succ])
            | (refine h_skip (i := 6) hHeld rfl (by kernel_rfl) (by kernel_rfl) (by kernel_rfl) ?_ ?_
               · rfl
               simp only [Act.put, List.setIfInBounds_toArray, List.set_cons_zero, List.set_cons_succ])
          first
            | (refine h_run (i := 7) (v := ?_) hHeld rfl (by kernel_rfl) (by kernel_rfl) (by kernel_rfl) ?_ ?_ ?_
               rotate_left
               · rfl
               · (intro x hSx; (try dsimp only at hSx); go_simp <;> with_reducible rfl)
               simp only [Act.put, List.setIfInBounds_toArray, List.set_cons_zero, List.set_cons_succ])
            | (refine h_skip (i := 7) hHeld rfl (by kernel_rfl) (by kernel_rfl) (by kernel_rfl) ?_ ?_
               · rfl
               simp only [Act.put, List.setIfInBounds_toArray, List.set_cons_zero, List.set_cons_succ])
          first
            | (refine h_run (i := 8) (v := ?_) hHeld rfl (by kernel_rfl) (by kernel_rfl) (by kernel_rfl) ?_ ?_ ?_
               rotate_left
               · rfl
               · (intro x hSx; (try dsimp only at hSx); go_simp <;> with_reducible rfl)
               simp only [Act.put, List.setIfInBounds_toArray, List.set_cons_zero, List.set_cons_succ])
            | (refine h_skip (i := 8) hHeld rfl (by kernel_rfl) (by kernel_rfl) (by kernel_rfl) ?_ ?_
               · rfl
               simp only [Act.put, List.setIfInBounds_toArray, List.set_cons_zero, List.set_cons_succ])
          first
            | (refine h_run (i := 9) (v := ?_) hHeld rfl (by kernel_rfl) (by kernel_rfl) (by kernel_rfl) ?_ ?_ ?_
               rotate_left
               · rfl
               · (intro x hSx; (try dsimp only at hSx); go_simp <;> with_reducible rfl)
               simp only [Act.put, List.setIfInBounds_toArray, List.set_cons_zero, List.set_cons_succ])
            | (refine h_skip (i := 9) hHeld rfl (by kernel_rfl) (by kernel_rfl) (by kernel_rfl) ?_ ?_
               · rfl
               simp only [Act.put, List.setIfInBounds_toArray, List.set_cons_zero, List.set_cons_succ])
          first
            | (refine h_run (i := 10) (v := ?_) hHeld rfl (by kernel_rfl) (by kernel_rfl) (by kernel_rfl) ?_ ?_ ?_
               rotate_left
               · rfl
               · (intro x hSx; (try dsimp only at hSx); go_simp <;> with_reducible rfl)
               simp only [Act.put, List.setIfInBounds_toArray, List.set_cons_zero, List.set_cons_succ])
            | (refine h_skip (i := 10) hHeld rfl (by kernel_rfl) (by kernel_rfl) (by kernel_rfl) ?_ ?_
               · rfl
               simp only [Act.put, List.setIfInBounds_toArray, List.set_cons_zero, List.set_cons_succ])
          clear hHeld
          refine h_call (i := 11) (fun y : World => y.cell? ⟨w2.heap.size, 2, none⟩ = some (.slice (some ⟨g, 0, none⟩) N N)) (fun _ h => h) (kp1.out wr.drew hG2.out) rfl (by kernel_rfl) rfl ?_ ?_
          · go_simp <;> with_reducible rfl
          rintro e y ⟨rfl, nq, rfl⟩
          have hG3 := Lib.hid (only_drewN hG2.out nq)
          have hM3 := Lib.hid (hM2.out.drewN nq)
          refine ⟨_, rfl, hbx.out _ hG3.out, ?_⟩
          have hHeld : (fun y : World => y.cell? ⟨w2.heap.size, 2, none⟩ = some (.slice (some ⟨g, 0, none⟩) N N)) (wr.drew.drewN nq) := hbx.out _ hG3.out
          have hM4 : Hid (MRow (wr.drew.drewN nq) g R C (pwP i k)) := hM3
          have hG4 : Hid (X.grownBy (wr.drew.drewN nq) (some g)) := hG3
          generalize wr.drew.drewN nq = y at *
          first
            | (refine h_run (i := 12) (v := ?_) hHeld rfl (by kernel_rfl) (by kernel_rfl) (by kernel_rfl) ?_ ?_ ?_
               rotate_left
               · rfl
               · (intro x hSx; (try dsimp only at hSx); go_simp <;> with_reducible rfl)
               simp only [Act.put, List.setIfInBounds_toArray, List.set_cons_zero, List.set_cons_succ])
            | (refine h_skip (i := 12) hHeld rfl (by kernel_rfl) (by kernel_rfl) (by kernel_rfl) ?_ ?_
               · rfl
               simp only [Act.put, List.setIfInBounds_toArray, List.set_cons_zero, List.set_cons_succ])
          first
            | (refine h_run (i := 13) (v := ?_) hHeld rfl (by kernel_rfl) (by kernel_rfl) (by kernel_rfl) ?_ ?_ ?_
               rotate_left
               · rfl
               · (intro x hSx; (try dsimp only at hSx); go_simp <;> with_reducible rfl)
               simp only [Act.put, List.setIfInBounds_toArray, List.set_cons_zero, List.set_cons_succ])
            | (refine h_skip (i := 13) hHeld rfl (by kernel_rfl) (by kernel_rfl) (by kernel_rfl) ?_ ?_
               · rfl
               simp only [Act.put, List.setIfInBounds_toArray, List.set_cons_zero, List.set_cons_succ])
          first
            | (refine h_run (i := 14) (v := ?_) hHeld rfl (by kernel_rfl) (by kernel_rfl) (by kernel_rfl) ?_ ?_ ?_
               rotate_left
               · rfl
               · (intro x hSx; (try dsimp only at hSx); go_simp <;> with_reducible rfl)
               simp only [Act.put, List.setIfInBounds_toArray, List.set_cons_zero, List.set_cons_succ])
            | (refine h_skip (i := 14) hHeld rfl (by kernel_rfl) (by kernel_rfl) (by kernel_rfl) ?_ ?_
               · rfl
               simp only [Act.put, List.setIfInBounds_toArray, List.set_cons_zero, List.set_cons_succ])
          first
            | (refine h_run (i := 15) (v := ?_) hHeld rfl (by kernel_rfl) (by kernel_rfl) (by kernel_rfl) ?_ ?_ ?_
               rotate_left
               · rfl
               · (intro x hSx; (try dsimp only at hSx); go_simp <;> with_reducible rfl)
               simp only [Act.put, List.setIfInBounds_toArray, List.set_cons_zero, List.set_cons_succ])
            | (refine h_skip (i := 15) hHeld rfl (by kernel_rfl) (by kernel_rfl) (by kernel_rfl) ?_ ?_
               · rfl
               simp only [Act.put, List.setIfInBounds_toArray, List.set_cons_zero, List.set_cons_succ])
          clear hHeld
          have cw := hM4.out.cell i k hiR hkC
          rw [hqq.out] at cw
          have fw := hM4.out.fr (q + k)
          have hset := (hM4.out.set i k x hkC).congr (fun r c _ _ => hnx.out r c)
          rw [hqq.out] at hset
          have hlset := only_set hG4.out (q + k) (.int .u8 (x : Nat))
          refine h_write (i := 16) (w' := y.setCell ⟨g, q + k, none⟩ (.int .u8 (x : Nat))) (fun y : World => y.cell? ⟨w2.heap.size, 2, none⟩ = some (.slice (some ⟨g, 0, none⟩) N N)) (fun _ h => h) rfl (by kernel_rfl) rfl ?_ (hbx.out _ hlset) ?_
          · go_simp <;> with_reducible rfl
          refine h_done (by kernel_rfl) ?_
          have hseth := Lib.hid hset
          have hlseth := Lib.hid hlset
          clear hset hlset cw fw
          go_wp2_with fail
          go_roundw
          case rel => exact ⟨k + 1, by omega, by go_num, hseth, hlseth⟩
          case measure => simp [intOf]; omega
        · obtain rfl : k = C := by omega
          have i2 : decide ((k : Int) < (k : Int)) = false := by simp
          have hM2 := Lib.hid (hM1.out.congr (fun r c _ hc => pwP_row i k r c hc))
          go_wp2_with fail
          go_roundw
          case rel => exact ⟨i + 1, by omega, by go_num, hM2, hG1⟩
          case measure => simp [intOf]; omega
    · obtain rfl : i = R := by omega
      have i1 : decide ((i : Int) < (i : Int)) = false := by simp
      have hMf := Lib.hid (hM.out.congr (fun r c hr _ => pwP_end i r c hr))
      have b0 := blk_of ((hG.out.block w2.heap.size hx1 (by intro e; injection e with e; exact hbg e)).trans hx0.out)
      have hr0 := ((hG.out.block w.heap.size (by omega) (by intro e; injection e with e; omega)).trans (hx2.out.block w.heap.size (by omega))).trans ((hb2h.out.block w.heap.size hsz).trans h0h.out)
      have hr0b := blk_of hr0
      have hB9 := Lib.hid (below_grown (hBh.out.trans ((hb2h.out.mono hBh.out.size).trans (hx2.out.mono (by omega)))) (Nat.le_refl _) hG.out (fun p hp => by cases hp; omega) : Below w.heap.size w wr)
      have hr0h := Lib.hid hr0
      have hgw : w.heap.size ≤ g := by omega
      have hgw2 : g ≠ w.heap.size := by omega
      clear hr0
      go_wp2_with fail
      refine bodyPost_ret (v := .tuple #[.agg #[.int .i64 (i : Nat), .int .i64 (C : Nat), .slice (some ⟨g, 0, none⟩) N N], .int .i64 0]) (results_row_tmp rfl _ _ w.heap.size 188 _ (0, 0) _ _ rfl rfl (setRow_heap _ _ _ _ _ _ hr0h.out) Try.underlying188 rfl mx_info) rfl ?hpost
      case hpost => exact ⟨g, by rw [hN.out], hgw, hMf.out.stay (setRow_other _ _ _ _ hgw2), below_setRow hB9.out (Nat.le_refl _) _⟩
end Go.Proofs.Ytmfagdbocidfjaa
