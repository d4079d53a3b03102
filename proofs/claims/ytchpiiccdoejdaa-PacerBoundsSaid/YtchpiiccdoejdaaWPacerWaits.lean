/- The walk of the law PacerWaits: it answers true for all calls and all numbers of bytes. -/
import Derived.Test.YtchpiiccdoejdaaPacer5
import Derived.Test.YtchpiiccdoejdaaAgg
namespace Go.Proofs.Ytchpiiccdoejdaa
open Go.RowKit
theorem sbk_info5 : (Try.prog.info? 39).map (·.size) = some 5 := by kernel_rfl
theorem ld_sb0 (v : Value) : Instr.loadAt 39 v = wLoad 39 v := rfl
theorem ld_sb (w : World) (b : Nat) : (wLoad 39 (.pointer (some ⟨b, 0, none⟩))).run Try.prog w = loadAns 5 w (blk w b) (wLoadRes Try.prog 39 b w) := run_wLoad Try.underlying39 rfl sbk_info5 w b
theorem sto_sb0 (p x : Value) : Instr.storeAt 39 p x = wStore 39 p x := rfl
theorem sto_sb (w : World) (b : Nat) (C : Array Value) : (wStore 39 (.pointer (some ⟨b, 0, none⟩)) (.agg C)).run Try.prog w = storeAns 5 w b C (blk w b) (wStoreRes Try.prog 39 b C w) := run_wStore sbk_info5 w b C
theorem zeroSbk (w : World) : (zeroValue 39).run Try.prog w = .ok (.agg (bkA z0B)) w := by kernel_rfl
/-! ### the plain law -/
theorem wait_bd (s : BkS) (c n : Int) (ok : BkOk s c) (hn : n ≤ s.burst) (hh : s.held < n) :
    0 < (n - s.held + s.rate - 1) / s.rate ∧ (n - s.held + s.rate - 1) / s.rate ≤ 1073741824 ∧ n - s.held ≤ s.rate * ((n - s.held + s.rate - 1) / s.rate) ∧ s.rate * ((n - s.held + s.rate - 1) / s.rate) - s.rate < n - s.held := by
  obtain ⟨r0, r1, b0, b1, h0, h1, _⟩ := ok
  have e := Int.mul_ediv_add_emod (n - s.held + s.rate - 1) s.rate
  have m0 := Int.emod_nonneg (n - s.held + s.rate - 1) (show s.rate ≠ 0 by omega)
  have m1 := Int.emod_lt_of_pos (n - s.held + s.rate - 1) (show 0 < s.rate by omega)
  have q3 := Int.ediv_le_self s.rate (show 0 ≤ n - s.held + s.rate - 1 by omega)
  have q1 : 0 < (n - s.held + s.rate - 1) / s.rate := by
    by_cases h : 0 < (n - s.held + s.rate - 1) / s.rate
    · exact h
    · exfalso
      have := Int.mul_le_mul_of_nonneg_left (show (n - s.held + s.rate - 1) / s.rate ≤ 0 by omega) (show 0 ≤ s.rate by omega)
      rw [Int.mul_zero] at this
      omega
  refine ⟨q1, by omega, by omega, by omega⟩
theorem tick_may (s : BkS) (c n t : Int) (ok : BkOk s c) (hn0 : 0 ≤ n) (hn : n ≤ s.burst) (ht : 0 ≤ t) (hm : n - s.held ≤ s.rate * t) (hb : s.rate * t ≤ 9223372036854775807) : bkMay (bkTick s t) n = true := by
  obtain ⟨r0, r1, b0, b1, h0, h1, _⟩ := ok
  have hp := mul_nn s.rate t (by omega) ht
  unfold bkTick
  rw [satZ_in (s.rate * t) (by omega) hb]
  unfold bkMay
  split
  · rename_i h
    have : t = 0 := by omega
    subst this
    simp at hm
    simp; omega
  · split <;> simp <;> omega
theorem tick_not (s : BkS) (c n t : Int) (ok : BkOk s c) (hn : n ≤ s.burst) (hh : s.held < n) (hm : s.rate * t < n - s.held) (hb : -9223372036854775808 ≤ s.rate * t) : bkMay (bkTick s t) n = false := by
  obtain ⟨r0, r1, b0, b1, h0, h1, _⟩ := ok
  unfold bkTick
  rw [satZ_in (s.rate * t) hb (by omega)]
  unfold bkMay
  split
  · simp; omega
  · split <;> simp <;> omega
theorem bkWait_no (s : BkS) (n : Int) (h : n < 0 ∨ s.burst < n) : bkWait s n = (0, false) := by unfold bkWait; rw [if_pos h]
theorem bkWait_now (s : BkS) (n : Int) (h : ¬ (n < 0 ∨ s.burst < n)) (h2 : n ≤ s.held) : bkWait s n = (0, true) := by unfold bkWait; rw [if_neg h, if_pos h2]
theorem bkWait_yes (s : BkS) (n : Int) (h : ¬ (n < 0 ∨ s.burst < n)) (h2 : ¬ n ≤ s.held) : bkWait s n = ((n - s.held + s.rate - 1) / s.rate, true) := by unfold bkWait; rw [if_neg h, if_neg h2]
theorem box_two (w : World) (x y : Int) (T : TypeId) (w' : World) (hb : Below (w.alloc (.cells #[.int .i64 x, .int .i64 y] T)).heap.size (w.alloc (.cells #[.int .i64 x, .int .i64 y] T)) w') :
    w'.cell? ⟨w.heap.size, 0, none⟩ = some (.int .i64 x) ∧ w'.cell? ⟨w.heap.size, 1, none⟩ = some (.int .i64 y) ∧ Below w.heap.size w w' := by
  have h0 := last_block0 w (.cells #[.int .i64 x, .int .i64 y] T) _ rfl
  have c0 : (w.alloc (.cells #[.int .i64 x, .int .i64 y] T)).cell? ⟨w.heap.size, 0, none⟩ = some (.int .i64 x) := by rw [cell_of_block h0]; rfl
  have c1 : (w.alloc (.cells #[.int .i64 x, .int .i64 y] T)).cell? ⟨w.heap.size, 1, none⟩ = some (.int .i64 y) := by rw [cell_of_block h0]; rfl
  refine ⟨(hb.cell (cell_block_lt c0)).trans c0, (hb.cell (cell_block_lt c1)).trans c1, ?_⟩
  have hB : Below w.heap.size w (w.alloc (.cells #[.int .i64 x, .int .i64 y] T)) := (Below.refl _ _).alloc (Nat.le_refl _) _
  exact hB.trans (hb.mono hB.size)
attribute [local irreducible] satZ bkTick bkTake bkMay bkRight bkChange bkErr bkWait
attribute [local irreducible] blk wLoad wLoadRes loadAns wStore wStoreRes storeAns Plain bkA
attribute [local go_sem ↓] ld_rb0 sto_rb0 ld_sb0 sto_sb0
attribute [local go_sem] ld_rb sto_rb ld_sb sto_sb loadAns_some storeAns_some bkA_plain bkA_size blk_alloc_if blk_setRow_if blk_drew_at blk_drewN_at rowPut_some
set_option maxRecDepth 100000 in
set_option maxHeartbeats 4000000 in
theorem pacerWaits_walk (v0 : Value) (a1 : Option Addr) (len1 cap1 : Nat) (a2 : Int) (w : World) (w0 : IsAgg [some .i64, some .i64] v0) (w1 : IsRec [some .i64, some .i64, some .i64] w a1 len1 cap1) (w2 : (Lit.int .i64 a2).wf = true) :
    Calls Try.prog 5 #[v0, .slice a1 len1 cap1, .int .i64 a2] w fun e w' => e = .returned (.bool true) ∧ Below w.heap.size w w' := by
  obtain ⟨x, y, rfl, hx, hy⟩ := agg2 w0
  obtain ⟨g, hg⟩ := bops_open w1
  have hn : len1 ≤ 9223372036854775807 := by obtain ⟨_, _, _, h1, h2, _⟩ := w1; unfold maxLen at h2; omega
  have hgh := hide hg
  have hz := zeroRbk
  have hz2 := zeroSbk
  have hbox := hide (fun w' => box_two w x y 36 w')
  clear w0 w1 w2 hg hx hy
  go_enter Try.func5, Try.ntmps5
  go_wp2_with fail
  refine (pc_awake _).mono ?_
  rintro e w1 ⟨rfl, hb1⟩
  obtain ⟨c0, c1, hB⟩ := hbox.out _ hb1
  clear hbox hb1
  have hs1 := hB.size
  cases hr : bkRight x y
  · have hp := Lib.hid (pl_no x y a1 len1 cap1 w1 hr)
    clear hr hgh
    go_wp2_with fail
    refine hp.out.mono ?_
    rintro e w2 ⟨rfl, hb2⟩
    have hB2 := hB.trans (hb2.mono hs1)
    have hBs := hB2.size
    clear hb2 hB c0 c1
    go_wp2_with fail
    go_ret
    exact ⟨rfl, below_setRow (hB2.alloc hBs _) hBs _⟩
  · have hp := Lib.hid (pl_yes x y a1 len1 cap1 g w1 (hgh.out.below hB) hn hr)
    clear hr hgh
    go_wp2_with fail
    refine hp.out.mono ?_
    rintro e w2 ⟨s, p, hok, rfl, hk, hpp, hb2⟩
    have hB2 := hB.trans (hb2.mono hs1)
    have hBs := hB2.size
    have hpl := hk.lt
    have hokh := Lib.hid hok
    have hkh := Lib.hid hk
    have hB2h := Lib.hid hB2
    clear hb2 hB c0 c1 hok hk hB2
    go_upto_region 6 with (fail)
    have hQ : blk ((w2.alloc (.cells (bkA z0B) 32)).setRow w2.heap.size (bkA s)) w2.heap.size = some (.cells (bkA s) 32 (0, 0)) := blk_of (setRow_heap _ _ _ _ _ _ (last_block0 w2 _ _ rfl))
    have hK : BkAt ((w2.alloc (.cells (bkA z0B) 32)).setRow w2.heap.size (bkA s)) p s := (setRow_other _ _ _ _ (by omega)).trans (blk_alloc hkh.out _)
    have hB3 : Below w.heap.size w ((w2.alloc (.cells (bkA z0B) 32)).setRow w2.heap.size (bkA s)) := below_setRow (hB2h.out.alloc hBs _) hBs _
    generalize World.setRow _ _ _ = W at hQ hK hB3 ⊢
    clear hkh hB2h
    have ok := hokh.out
    have hwt := Lib.hid (fun (X : World) (h : BkAt X p s) => s_wait p s 1677721600 a2 X h ok)
    have hlt := Lib.hid (blk_lt hQ)
    have hqp : w2.heap.size ≠ p := by omega
    have hws : w.heap.size ≤ w2.heap.size := hBs
    clear ok
    have c1 : W.cell? ⟨w2.heap.size, 1, none⟩ = some (.int .i64 s.burst) := by rw [cell_of_block (blk_heap hQ)]; exact bkA_g1 s
    have hKh := Lib.hid hK
    have hQh := Lib.hid hQ
    have hB3h := Lib.hid hB3
    clear hK hQ hB3
    by_cases hn0 : a2 < 0
    · have e1 := bkWait_no s a2 (.inl hn0)
      have d1 : decide (a2 < 0) = true := decide_eq_true hn0
      rw [e1] at hwt
      clear e1 hn0
      go_wp2_with fail
      refine (hwt.out _ hKh.out).mono ?_
      rintro e w3 ⟨rfl, k, rfl⟩
      go_wp2_with fail
      go_ret
      exact ⟨rfl, below_drewN hB3h.out k⟩
    have d1 : decide (a2 < 0) = false := decide_eq_false hn0
    by_cases hn1 : s.burst < a2
    · have e1 := bkWait_no s a2 (.inr hn1)
      have d2 : decide (s.burst < a2) = true := decide_eq_true hn1
      rw [e1] at hwt
      clear e1 hn0 hn1
      go_wp2_with fail
      refine (hwt.out _ hKh.out).mono ?_
      rintro e w3 ⟨rfl, k, rfl⟩
      go_wp2_with fail
      go_ret
      exact ⟨rfl, below_drewN hB3h.out k⟩
    have d2 : decide (s.burst < a2) = false := decide_eq_false hn1
    by_cases hh : a2 ≤ s.held
    · have e1 := bkWait_now s a2 (by omega) hh
      rw [e1] at hwt
      have htk := Lib.hid (fun (X : World) (h : BkAt X p s) => s_tick p s 1677721600 0 X h hokh.out (by omega))
      have hmy := Lib.hid (fun (X : World) (h : BkAt X p (bkTick s 0)) => s_may p (bkTick s 0) a2 X h)
      have em := Lib.hid (tick_may s 1677721600 a2 0 hokh.out (by omega) (by omega) (by omega) (by omega) (by omega))
      clear e1 hn0 hn1 hh
      go_wp2_with fail
      refine (hwt.out _ hKh.out).mono ?_
      rintro e w3 ⟨rfl, k, rfl⟩
      go_wp2_with fail
      refine (htk.out (W.drewN k) hKh.out).mono ?_
      rintro e w4 ⟨rfl, hk4, hg4⟩
      go_wp2_with fail
      refine (hmy.out _ hk4).mono ?_
      rintro e w5 ⟨rfl, rfl⟩
      rw [em.out]
      go_wp2_with fail
      go_ret
      exact ⟨rfl, below_of_only (below_drewN hB3h.out k) hg4 hB3h.out.size (by omega)⟩
    · have e1 := bkWait_yes s a2 (by omega) hh
      obtain ⟨t0, t1, t2, t3⟩ := wait_bd s 1677721600 a2 hokh.out (by omega) (by omega)
      generalize (a2 - s.held + s.rate - 1) / s.rate = t at *
      rw [e1] at hwt
      obtain ⟨r0, r1, b0, b1, h0, h1, -⟩ := hokh.out
      have ep : s.rate * (t - 1) = s.rate * t - s.rate := by rw [Int.mul_sub, Int.mul_one]
      have hp0 := mul_nn s.rate t (by omega) (by omega)
      have em := Lib.hid (tick_may s 1677721600 a2 t hokh.out (by omega) (by omega) (by omega) t2 (by omega))
      have en := Lib.hid (tick_not s 1677721600 a2 (t - 1) hokh.out (by omega) (by omega) (by omega) (by omega))
      have htk := Lib.hid (fun (X : World) (h : BkAt X p s) => s_tick p s 1677721600 t X h hokh.out (by omega))
      have hmy := Lib.hid (fun (X : World) (h : BkAt X p (bkTick s t)) => s_may p (bkTick s t) a2 X h)
      have htc := Lib.hid (fun (X : World) (q : Nat) (h : BkAt X q s) => s_tick q s 1677721600 (t - 1) X h hokh.out (by omega))
      have hmc := Lib.hid (fun (X : World) (q : Nat) (h : BkAt X q (bkTick s (t - 1))) => s_may q (bkTick s (t - 1)) a2 X h)
      have dt : decide (t > 0) = true := decide_eq_true t0
      have hwsz := hB3h.out.size
      have hpW := hKh.out.lt
      clear e1 hn0 hn1 hh ep hp0 t2 t3 r0 r1 b0 b1 h0 h1
      go_wp2_with fail
      refine (hwt.out _ hKh.out).mono ?_
      rintro e w3 ⟨rfl, k, rfl⟩
      have kb := blk_of hKh.out
      go_upto_region 13 with (fail)
      have y1 : BkAt (((W.drewN k).alloc (.cells (bkA z0B) 39)).setRow W.heap.size (bkA s)) W.heap.size s := setRow_heap _ _ _ _ _ _ (last_block0 (W.drewN k) _ _ rfl)
      have y2 : BkAt (((W.drewN k).alloc (.cells (bkA z0B) 39)).setRow W.heap.size (bkA s)) p s := (setRow_other _ _ _ _ (by omega)).trans (blk_alloc (show (W.drewN k).heap[p]? = _ from hKh.out) _)
      have yB : Below w.heap.size w (((W.drewN k).alloc (.cells (bkA z0B) 39)).setRow W.heap.size (bkA s)) := below_setRow ((below_drewN hB3h.out k).alloc hwsz _) hwsz _
      have ysz : p < (((W.drewN k).alloc (.cells (bkA z0B) 39)).setRow W.heap.size (bkA s)).heap.size := y2.lt
      clear kb
      generalize World.setRow _ _ _ = Y at y1 y2 yB ysz ⊢
      have y2h := Lib.hid y2
      have yBh := Lib.hid yB
      clear y2 yB
      have hne : p ≠ W.heap.size := by omega
      go_wp2_with fail
      refine (htc.out _ _ y1).mono ?_
      rintro e w4 ⟨rfl, hk4, hg4⟩
      have z2 : BkAt w4 p s := (hg4.block p ysz (by simpa using hne)).trans y2h.out
      have zB := below_of_only yBh.out hg4 yBh.out.size hwsz
      have z2h := Lib.hid z2
      have zBh := Lib.hid zB
      clear z2 zB hg4 y1
      go_wp2_with fail
      refine (hmc.out _ _ hk4).mono ?_
      rintro e w5 ⟨rfl, rfl⟩
      rw [en.out]
      go_wp2_with fail
      refine (htk.out _ z2h.out).mono ?_
      rintro e w6 ⟨rfl, hk6, hg6⟩
      go_wp2_with fail
      refine (hmy.out _ hk6).mono ?_
      rintro e w7 ⟨rfl, rfl⟩
      rw [em.out]
      go_wp2_with fail
      go_ret
      exact ⟨rfl, below_of_only zBh.out hg6 zBh.out.size (by omega)⟩
end Go.Proofs.Ytchpiiccdoejdaa
