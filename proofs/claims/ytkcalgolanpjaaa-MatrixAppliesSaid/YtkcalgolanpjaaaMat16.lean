/- The contract of the document's Powers. -/
import Derived.Test.YtkcalgolanpjaaaMat15
namespace Go.Proofs.Ytkcalgolanpjaaa
open Go.RowKit
attribute [local irreducible] gexp gtbl glog rmul rinv rpow zexp mixF blk wLoad wLoadRes loadAns wStore wStoreRes storeAns Plain flF BRow MRow elK elF IsGf ivS gjS pvF clF swF OwnZ zfl
attribute [local go_sem ↓] ld_m0 ld_x0 sto_m0 sto_x0
attribute [local go_sem] ld_m ld_x sto_m sto_x loadAns_some storeAns_some mx_size mx_plain blk_alloc_if blk_setRow_if blk_drew_at blk_drewN_at rowPut_some
set_option maxRecDepth 100000 in
set_option maxHeartbeats 8000000 in
theorem x_powers (m C : Nat) (w : World) (hm : m ≤ 255) (hC : C ≤ 255) :
    Calls Try.prog 27 #[.int .i64 (m : Nat), .int .i64 (C : Nat)] w (XPost w m C pwF) := by
  have hz := zeroX
  have hB := below_one w (.cells #[.int .i64 0, .int .i64 0, .slice none 0 0] 33)
  have h1 := last_block0 w (.cells #[.int .i64 0, .int .i64 0, .slice none 0 0] 33) _ rfl
  have hx1 : w.heap.size < (w.alloc (.cells #[.int .i64 0, .int .i64 0, .slice none 0 0] 33)).heap.size := by show _ < (w.heap.push _).size; rw [Array.size_push]; omega
  have hrc := rc_le hm hC
  have hidx := Lib.hid (fun i k (hi : i < m) (hk : k < C) => idx_le hi hk hm hC)
  go_enter Try.func27, Try.ntmps27
  go_upto_region 1 with (fail)
  generalize World.alloc w _ = W at *
  have h1h := Lib.hid h1
  have hBh := Lib.hid hB
  clear h1 hB
  go_upto_region 2 with (fail)
  obtain ⟨x0, x1, x2⟩ := boxed W #[.int .i64 0, .int .i64 0, .slice none 0 0] #[.int .i64 (m : Nat), .int .i64 (C : Nat), .slice none 0 0] 33
  generalize World.setRow (World.alloc W _) _ _ = X at *
  have hX : Hid (BldAt X W m C (0 * C) none 0 pwF) := hide (by rw [Nat.zero_mul]; exact ⟨x0, OwnZ.nil _ _ _ _ _, x2⟩)
  have hwW : w.heap.size ≤ W.heap.size := by omega
  have hS : Hid (∀ y : World, Below W.heap.size W y → Below W.heap.size W y) := hide (fun _ h => h)
  clear x0 x1 x2
  go_upto_region 3 with (fail)
  go_loopw [6] (fun iv wr => ∃ (i : Nat) (s : Option Addr) (c : Nat), i ≤ m ∧ iv = .int .i64 (i : Nat) ∧ Hid (BldAt wr W m C (i * C) s c pwF)) (fun iv _ => m - (intOf iv).toNat)
  case atStart => exact ⟨0, none, 0, Nat.zero_le _, rfl, hX⟩
  case round =>
    obtain ⟨i, s0, c0, hi, rfl, hB0⟩ := hrel
    clear hX
    by_cases him : i < m
    · have i1 : (i : Int) < (m : Int) := by omega
      have hu8 := byteW i (by omega)
      go_upto_region 6 with (fail)
      go_loopw [7] (fun kv wr => ∃ (k : Nat) (s : Option Addr) (c : Nat), k ≤ C ∧ kv = .int .i64 (k : Nat) ∧ Hid (BldAt wr W m C (i * C + k) s c pwF)) (fun kv _ => C - (intOf kv).toNat)
      case atStart => exact ⟨0, s0, c0, Nat.zero_le _, rfl, hB0⟩
      case round =>
        obtain ⟨k, s, c, hk, rfl, hB1⟩ := hrel
        by_cases hkC : k < C
        · have i2 : (k : Int) < (C : Int) := by omega
          have hix := hidx.out i k him hkC
          have hxz : Hid (((rpow i k : Nat) : Int) = zfl C pwF (i * C + k)) := hide (zfl_at C pwF i k hkC)
          have hBd := Lib.hid (hB1.out.below (below_drewN (Below.refl _ _) 1))
          have hxh : Hid (∀ y, Below W.heap.size W y → Calls Try.prog 43 #[.int .u8 (i : Nat), .int .i64 (k : Nat)] y (Ret y (.int .u8 (rpow i k : Nat)))) := hide (fun y _ => ret_sameM (ref_pow i k y (by omega) (by omega)))
          generalize rpow i k = x at *
          go_upto_region 8 with (fail)
          have cs : wr.drew.cell? ⟨W.heap.size, 2, none⟩ = some (.slice s (i * C + k) c) := (cell_of_block hBd.out.bx).trans rfl
          refine h_begin 10 (fun y : World => Below W.heap.size W y) rfl (by kernel_rfl) (hS.out _ hBd.out.lo) ?_
          have hHeld : (fun y : World => Below W.heap.size W y) wr.drew := hS.out _ hBd.out.lo
          first
            | (refine h_run (i := 0) (v := ?_) hHeld rfl (by kernel_rfl) (by kernel_rfl) (by kernel_rfl) ?_ ?_ ?_
               rotate_left
               · rfl
               · (intro x hSx; (try dsimp only at hSx); go_simp <;> with_reducible rfl)
               simp only [Act.put, List.setIfInBounds_toArray, List.set_cons_zero, List.set_cons_succ])
            | (refine h_skip (i := 0) hHeld rfl (by kernel_rfl) (by kernel_rfl) (by kernel_rfl) ?_ ?_
               · rfl
               simp only [Act.put, List.setIfInBounds_toArray, List.set_cons_zero, List.set_cons_succ])
          first
            | (refine h_run (i := 2) (v := ?_) hHeld rfl (by kernel_rfl) (by kernel_rfl) (by kernel_rfl) ?_ ?_ ?_
               rotate_left
               · rfl
               · (intro x hSx; (try dsimp only at hSx); go_simp <;> with_reducible rfl)
               simp only [Act.put, List.setIfInBounds_toArray, List.set_cons_zero, List.set_cons_succ])
            | (refine h_skip (i := 2) hHeld rfl (by kernel_rfl) (by kernel_rfl) (by kernel_rfl) ?_ ?_
               · rfl
               simp only [Act.put, List.setIfInBounds_toArray, List.set_cons_zero, List.set_cons_succ])
          first
            | (refine h_run (i := 3) (v := ?_) hHeld rfl (by kernel_rfl) (by kernel_rfl) (by kernel_rfl) ?_ ?_ ?_
               rotate_left
               · rfl
               · (intro x hSx; (try dsimp only at hSx); go_simp <;> with_reducible rfl)
               simp only [Act.put, List.setIfInBounds_toArray, List.set_cons_zero, List.set_cons_succ])
            | (refine h_skip (i := 3) hHeld rfl (by kernel_rfl) (by kernel_rfl) (by kernel_rfl) ?_ ?_
               · rfl
               simp only [Act.put, List.setIfInBounds_toArray, List.set_cons_zero, List.set_cons_succ])
          first
            | (refine h_run (i := 4) (v := ?_) hHeld rfl (by kernel_rfl) (by kernel_rfl) (by kernel_rfl) ?_ ?_ ?_
               rotate_left
               · rfl
               · (intro x hSx; (try dsimp only at hSx); go_simp <;> with_reducible rfl)
               simp only [Act.put, List.setIfInBounds_toArray, List.set_cons_zero, List.set_cons_succ])
            | (refine h_skip (i := 4) hHeld rfl (by kernel_rfl) (by kernel_rfl) (by kernel_rfl) ?_ ?_
               · rfl
               simp only [Act.put, List.setIfInBounds_toArray, List.set_cons_zero, List.set_cons_succ])
          clear hHeld
          refine h_pairM (i := 1) (j := 5) (v := .slice s (i * C + k) c) (w1 := wr.drew) (hxh.out wr.drew hBd.out.lo) rfl rfl (by kernel_rfl) rfl rfl ?_ ?_ (hS.out _ hBd.out.lo) ?_ ?_
          · go_simp <;> with_reducible rfl
          · go_simp <;> with_reducible rfl
          · refine h_call (i := 5) (fun y : World => Below W.heap.size W y) (fun _ h => h) (hxh.out wr.drew hBd.out.lo) rfl (by kernel_rfl) rfl ?_ ?_
            · go_simp <;> with_reducible rfl
            rintro e y ⟨rfl, hcy⟩
            have hby := Lib.hid (hBd.out.below hcy)
            have hal : Below W.heap.size W (y.alloc (.cells #[.int .u8 (x : Nat)] 5)) := hby.out.lo.alloc hby.out.lo.size _
            refine ⟨_, rfl, hS.out _ hby.out.lo, ?_⟩
            clear cs hcy
            refine h_value (i := 6) (v := .slice (some ⟨y.heap.size, 0, none⟩) 1 1) (w' := y.alloc (.cells #[.int .u8 (x : Nat)] 5)) (fun y : World => Below W.heap.size W y) (fun _ h => h) rfl (by kernel_rfl) rfl ?_ (hS.out _ hal) ?_
            · go_simp <;> with_reducible rfl
            obtain ⟨v', y2, hrun, hown, hgr⟩ := run_snocZ (P := Try.prog) Try.underlying22 infoI8 (by decide) y (.slice s (i * C + k) c) (W.heap.size + 1) (i * C + k) (zfl C (pwF)) (x : Nat) hxz.out hby.out.own (by omega) hby.out.size 22
            obtain ⟨s', c', rfl, hbx2, hput⟩ := hby.out.put hown hgr
            have hlo2 : Below W.heap.size W y2 := below_grown hby.out.lo (Nat.le_refl _) hgr (fun b hb => by have := (hby.out.own.lt b hb).1; omega)
            refine h_value (i := 7) (v := .slice s' (i * C + k + 1) c') (w' := y2) (fun y : World => Below W.heap.size W y) (fun _ h => h) rfl (by kernel_rfl) rfl ?_ (hS.out _ hlo2) ?_
            · exact exec_appendM (.tmp 22) (.tmp 27) _ _ rfl rfl rfl hrun
            have hHeld : (fun y : World => Below W.heap.size W y) y2 := hS.out _ hlo2
            first
              | (refine h_run (i := 8) (v := ?_) hHeld rfl (by kernel_rfl) (by kernel_rfl) (by kernel_rfl) ?_ ?_ ?_
                 rotate_left
                 · rfl
                 · (intro x hSx; (try dsimp only at hSx); go_simp <;> with_reducible rfl)
                 simp only [Act.put, List.setIfInBounds_toArray, List.set_cons_zero, List.set_cons_succ])
              | (refine h_skip (i := 8) hHeld rfl (by kernel_rfl) (by kernel_rfl) (by kernel_rfl) ?_ ?_
                 · rfl
                 simp only [Act.put, List.setIfInBounds_toArray, List.set_cons_zero, List.set_cons_succ])
            clear hHeld
            have c2o : y2.cell? ⟨W.heap.size, 2, none⟩ = some (.slice s (i * C + k) c) := (cell_of_block hbx2).trans rfl
            have f2o : y2.frozen? ⟨W.heap.size, 2, none⟩ = false := frozen_of_row y2 _ 2 _ _ hbx2
            refine h_write (i := 9) (w' := y2.setCell ⟨W.heap.size, 2, none⟩ (.slice s' (i * C + k + 1) c')) (fun y : World => Below W.heap.size W y) (fun _ h => h) rfl (by kernel_rfl) rfl ?_ (hS.out _ hput.lo) ?_
            · go_simp <;> with_reducible rfl
            refine h_done (by kernel_rfl) ?_
            have hputh := Lib.hid hput
            clear hrun hown hgr hbx2 hput hlo2 c2o f2o hal
            go_wp2_with fail
            go_roundw
            case rel => exact ⟨k + 1, s', c', by omega, by go_num, hputh⟩
            case measure => simp [intOf]; omega
          · rintro e y ⟨rfl, hcy⟩
            have hby := Lib.hid (hBd.out.below hcy)
            have hal : Below W.heap.size W (y.alloc (.cells #[.int .u8 (x : Nat)] 5)) := hby.out.lo.alloc hby.out.lo.size _
            refine ⟨_, rfl, hS.out _ hby.out.lo, ?_⟩
            have csy : y.cell? ⟨W.heap.size, 2, none⟩ = some (.slice s (i * C + k) c) := (cell_of_block hby.out.bx).trans rfl
            have csz : (y.alloc (.cells #[.int .u8 (x : Nat)] 5)).cell? ⟨W.heap.size, 2, none⟩ = some (.slice s (i * C + k) c) := (cell_of_block (blk_alloc hby.out.bx _)).trans rfl
            refine h_pairV (i := 1) (j := 6) (v := .slice s (i * C + k) c) (u := .slice (some ⟨y.heap.size, 0, none⟩) 1 1) (w1 := y) (w2 := y.alloc (.cells #[.int .u8 (x : Nat)] 5)) rfl rfl (by kernel_rfl) rfl rfl ?_ ?_ (hS.out _ hby.out.lo) (hS.out _ hal) ?_ ?_
            · go_simp <;> with_reducible rfl
            · go_simp <;> with_reducible rfl
            · clear cs hcy csy csz
              refine h_value (i := 6) (v := .slice (some ⟨y.heap.size, 0, none⟩) 1 1) (w' := y.alloc (.cells #[.int .u8 (x : Nat)] 5)) (fun y : World => Below W.heap.size W y) (fun _ h => h) rfl (by kernel_rfl) rfl ?_ (hS.out _ hal) ?_
              · go_simp <;> with_reducible rfl
              obtain ⟨v', y2, hrun, hown, hgr⟩ := run_snocZ (P := Try.prog) Try.underlying22 infoI8 (by decide) y (.slice s (i * C + k) c) (W.heap.size + 1) (i * C + k) (zfl C (pwF)) (x : Nat) hxz.out hby.out.own (by omega) hby.out.size 22
              obtain ⟨s', c', rfl, hbx2, hput⟩ := hby.out.put hown hgr
              have hlo2 : Below W.heap.size W y2 := below_grown hby.out.lo (Nat.le_refl _) hgr (fun b hb => by have := (hby.out.own.lt b hb).1; omega)
              refine h_value (i := 7) (v := .slice s' (i * C + k + 1) c') (w' := y2) (fun y : World => Below W.heap.size W y) (fun _ h => h) rfl (by kernel_rfl) rfl ?_ (hS.out _ hlo2) ?_
              · exact exec_appendM (.tmp 22) (.tmp 27) _ _ rfl rfl rfl hrun
              have hHeld : (fun y : World => Below W.heap.size W y) y2 := hS.out _ hlo2
              first
                | (refine h_run (i := 8) (v := ?_) hHeld rfl (by kernel_rfl) (by kernel_rfl) (by kernel_rfl) ?_ ?_ ?_
                   rotate_left
                   · rfl
                   · (intro x hSx; (try dsimp only at hSx); go_simp <;> with_reducible rfl)
                   simp only [Act.put, List.setIfInBounds_toArray, List.set_cons_zero, List.set_cons_succ])
                | (refine h_skip (i := 8) hHeld rfl (by kernel_rfl) (by kernel_rfl) (by kernel_rfl) ?_ ?_
                   · rfl
                   simp only [Act.put, List.setIfInBounds_toArray, List.set_cons_zero, List.set_cons_succ])
              clear hHeld
              have c2o : y2.cell? ⟨W.heap.size, 2, none⟩ = some (.slice s (i * C + k) c) := (cell_of_block hbx2).trans rfl
              have f2o : y2.frozen? ⟨W.heap.size, 2, none⟩ = false := frozen_of_row y2 _ 2 _ _ hbx2
              refine h_write (i := 9) (w' := y2.setCell ⟨W.heap.size, 2, none⟩ (.slice s' (i * C + k + 1) c')) (fun y : World => Below W.heap.size W y) (fun _ h => h) rfl (by kernel_rfl) rfl ?_ (hS.out _ hput.lo) ?_
              · go_simp <;> with_reducible rfl
              refine h_done (by kernel_rfl) ?_
              have hputh := Lib.hid hput
              clear hrun hown hgr hbx2 hput hlo2 c2o f2o hal
              go_wp2_with fail
              go_roundw
              case rel => exact ⟨k + 1, s', c', by omega, by go_num, hputh⟩
              case measure => simp [intOf]; omega
            · refine h_value (i := 1) (v := .slice s (i * C + k) c) (w' := y.alloc (.cells #[.int .u8 (x : Nat)] 5)) (fun y : World => Below W.heap.size W y) (fun _ h => h) rfl (by kernel_rfl) rfl ?_ (hS.out _ hal) ?_
              · go_simp <;> with_reducible rfl
              clear cs hcy csy csz
              obtain ⟨v', y2, hrun, hown, hgr⟩ := run_snocZ (P := Try.prog) Try.underlying22 infoI8 (by decide) y (.slice s (i * C + k) c) (W.heap.size + 1) (i * C + k) (zfl C (pwF)) (x : Nat) hxz.out hby.out.own (by omega) hby.out.size 22
              obtain ⟨s', c', rfl, hbx2, hput⟩ := hby.out.put hown hgr
              have hlo2 : Below W.heap.size W y2 := below_grown hby.out.lo (Nat.le_refl _) hgr (fun b hb => by have := (hby.out.own.lt b hb).1; omega)
              refine h_value (i := 7) (v := .slice s' (i * C + k + 1) c') (w' := y2) (fun y : World => Below W.heap.size W y) (fun _ h => h) rfl (by kernel_rfl) rfl ?_ (hS.out _ hlo2) ?_
              · exact exec_appendM (.tmp 22) (.tmp 27) _ _ rfl rfl rfl hrun
              have hHeld : (fun y : World => Below W.heap.size W y) y2 := hS.out _ hlo2
              first
                | (refine h_run (i := 8) (v := ?_) hHeld rfl (by kernel_rfl) (by kernel_rfl) (by kernel_rfl) ?_ ?_ ?_
                   rotate_left
                   · rfl
                   · (intro x hSx; (try dsimp only at hSx); go_simp <;> with_reducible rfl)
                   simp only [Act.put, List.setIfInBounds_toArray, List.set_cons_zero, List.set_cons_succ])
                | (refine h_skip (i := 8) hHeld rfl (by kernel_rfl) (by kernel_rfl) (by kernel_rfl) ?_ ?_
                   · rfl
                   simp only [Act.put, List.setIfInBounds_toArray, List.set_cons_zero, List.set_cons_succ])
              clear hHeld
              have c2o : y2.cell? ⟨W.heap.size, 2, none⟩ = some (.slice s (i * C + k) c) := (cell_of_block hbx2).trans rfl
              have f2o : y2.frozen? ⟨W.heap.size, 2, none⟩ = false := frozen_of_row y2 _ 2 _ _ hbx2
              refine h_write (i := 9) (w' := y2.setCell ⟨W.heap.size, 2, none⟩ (.slice s' (i * C + k + 1) c')) (fun y : World => Below W.heap.size W y) (fun _ h => h) rfl (by kernel_rfl) rfl ?_ (hS.out _ hput.lo) ?_
              · go_simp <;> with_reducible rfl
              refine h_done (by kernel_rfl) ?_
              have hputh := Lib.hid hput
              clear hrun hown hgr hbx2 hput hlo2 c2o f2o hal
              go_wp2_with fail
              go_roundw
              case rel => exact ⟨k + 1, s', c', by omega, by go_num, hputh⟩
              case measure => simp [intOf]; omega
        · obtain rfl : k = C := by omega
          have i2 : decide ((k : Int) < (k : Int)) = false := by simp
          have hB2 : Hid (BldAt wr W m k ((i + 1) * k) s c (pwF)) := hide (by rw [Nat.add_mul, Nat.one_mul]; exact hB1.out)
          go_wp2_with fail
          go_roundw
          case rel => exact ⟨i + 1, s, c, by omega, by go_num, hB2⟩
          case measure => simp [intOf]; omega
    · obtain rfl : i = m := by omega
      have i1 : decide ((i : Int) < (i : Int)) = false := by simp
      have hbx := blk_of hB0.out.bx
      have hb1 := (hB0.out.lo.block _ hx1).trans h1h.out
      have hb1b := blk_of hb1
      have hb1h := Lib.hid hb1
      have hlo := Lib.hid (hBh.out.trans (hB0.out.lo.mono hwW))
      obtain ⟨s9, c9, he9, hz9, hn9, _, hnil9⟩ := hB0.out.own.open
      cases he9
      have hmat := Lib.hid (mat_of_z hz9)
      have hlt : ∀ D, MAt (wr.setRow (w.heap.size) D) s0 i C (pwF) := fun D r k' hr hk' => by
        obtain ⟨b, off, hs, hc⟩ := hmat.out r k' hr hk'
        refine ⟨b, off, hs, ?_⟩
        have hown := hB0.out.own
        rw [hs] at hown
        have hbl := (hown.lt b rfl).1
        have : (wr.setRow (w.heap.size) D).heap[b]? = wr.heap[b]? := setRow_other _ _ _ _ (by omega)
        rw [World.cell?_of_block (a := ⟨b, off + (r * C + k'), none⟩) this]
        exact hc
      have hlth := Lib.hid hlt
      clear hb1 hlt hz9
      go_wp2_with fail
      refine bodyPost_ret (v := .agg #[.int .i64 (i : Nat), .int .i64 (C : Nat), .slice s0 (i * C) c0]) (results_cell_row rfl _ _ (w.heap.size) 33 _ (0, 0) _ rfl (setRow_heap _ _ _ _ _ _ hb1h.out) Try.underlying33 rfl rx_info) rfl ⟨s0, c0, rfl, hlth.out _, hnil9, hn9, below_setRow hlo.out (by omega) _⟩
end Go.Proofs.Ytkcalgolanpjaaa
