/- The walk of the law PacerBounds: it answers true for all calls. -/
import Derived.Test.YtchpiiccdoejdaaWPacerWaits
import Derived.BigQuiet
namespace Go.Proofs.Ytchpiiccdoejdaa
open Go.RowKit
/-! ### the plain law -/
/-- what was spent and what is held is no more than what was and what came -/
def BdOk (s0 s : BkS) (T : Int) : Prop := s.rate = s0.rate ∧ s.burst = s0.burst ∧ s.spent - s0.spent + s.held ≤ s0.held + s0.rate * T
theorem bd_take (s0 s : BkS) (T n : Int) (h : BdOk s0 s T) : BdOk s0 (bkTake s n) T := by
  obtain ⟨a, b, c⟩ := h
  unfold bkTake
  split
  · exact ⟨a, b, by simp only; omega⟩
  · exact ⟨a, b, c⟩
theorem bd_tick (s0 s : BkS) (c0 T t : Int) (ok : BkOk s c0) (h : BdOk s0 s T) (h0 : 0 ≤ t) (h1 : t ≤ 1000000) : BdOk s0 (bkTick s t) (T + t) := by
  obtain ⟨a, b, c⟩ := h
  obtain ⟨r0, r1, b0, b1, h0', h1', _⟩ := ok
  have hp := mul_nn s.rate t (by omega) h0
  have hp2 := Int.mul_le_mul r1 h1 h0 (by omega)
  have e : s0.rate * (T + t) = s0.rate * T + s.rate * t := by rw [Int.mul_add, a]
  unfold bkTick
  rw [satZ_in (s.rate * t) (by omega) (by omega)]
  split
  · exact ⟨a, b, by rw [e]; omega⟩
  · split
    · exact ⟨a, b, by rw [e]; simp only; omega⟩
    · exact ⟨a, b, by rw [e]; simp only; omega⟩
theorem bd_start (s : BkS) : BdOk s s 0 := ⟨rfl, rfl, by simp⟩
attribute [local irreducible] satZ bkTick bkTake bkMay bkRight bkChange bkErr bkWait BdOk
attribute [local irreducible] blk wLoad wLoadRes loadAns wStore wStoreRes storeAns Plain bkA
attribute [local go_sem ↓] ld_rb0 sto_rb0 ld_sb0 sto_sb0
attribute [local go_sem] ld_rb sto_rb ld_sb sto_sb loadAns_some storeAns_some bkA_plain bkA_size blk_alloc_if blk_setRow_if blk_drew_at blk_drewN_at rowPut_some
theorem bd_law (s0 s : BkS) (T : Int) (c0 c : Int) (ok0 : BkOk s0 c0) (ok : BkOk s c) (h : BdOk s0 s T) :
    decide (s.spent - s0.spent > s0.burst + s0.rate * T) = false ∧ decide (s.held < 0) = false ∧ decide (s.held > s0.burst) = false := by
  unfold BdOk at h
  obtain ⟨a, b, d⟩ := h
  obtain ⟨r0, r1, b0, b1, h0', h1', _⟩ := ok
  obtain ⟨_, _, _, _, g0, g1, _⟩ := ok0
  exact ⟨decide_eq_false (by omega), decide_eq_false (by omega), decide_eq_false (by omega)⟩
theorem bd_rng (s0 s : BkS) (T : Int) (c0 c : Int) (ok0 : BkOk s0 c0) (ok : BkOk s c) (h0 : 0 ≤ T) (h1 : T ≤ 100000000) :
    0 ≤ s0.rate * T ∧ s0.rate * T ≤ 104857600000000 ∧ 1 ≤ s0.burst ∧ s0.burst ≤ 16777216 ∧ 0 ≤ s.spent ∧ s.spent ≤ c ∧ 0 ≤ s0.spent ∧ s0.spent ≤ c0 := by
  obtain ⟨r0, r1, b0, b1, h0', h1', k0, k1, _⟩ := ok
  obtain ⟨q0, q1, q2, q3, g0, g1, j0, j1, _⟩ := ok0
  have := Int.mul_le_mul q1 h1 h0 (by omega)
  exact ⟨Int.mul_nonneg (by omega) h0, by omega, q2, q3, k0, k1, j0, j1⟩
theorem blk_only {w w' : World} {p b : Nat} (h : w.grownBy w' (some p)) (hne : b ≠ p) (hlt : b < w.heap.size) : blk w' b = blk w b := by
  unfold blk
  exact h.block b hlt (by simpa using hne)
set_option maxRecDepth 100000 in
set_option maxHeartbeats 4000000 in
theorem pacerBounds_walk (v0 : Value) (a1 : Option Addr) (len1 cap1 : Nat) (a2 : Option Addr) (len2 cap2 : Nat) (w : World) (w0 : IsAgg [some .i64, some .i64] v0) (w1 : IsRec [some .i64, some .i64, some .i64] w a1 len1 cap1) (w2 : IsRec [some .i64, some .i64, some .i64] w a2 len2 cap2) :
    Calls Try.prog 6 #[v0, .slice a1 len1 cap1, .slice a2 len2 cap2] w fun e w' => e = .returned (.bool true) ∧ Below w.heap.size w w' := by
  obtain ⟨x, y, rfl, hx, hy⟩ := agg2 w0
  obtain ⟨g, hg⟩ := bops_open w1
  obtain ⟨g2, hg2⟩ := bops_open w2
  have hn : len1 ≤ 9223372036854775807 := by obtain ⟨_, _, _, h1, h2, _⟩ := w1; unfold maxLen at h2; omega
  have hn2 : len2 ≤ 9223372036854775807 := by obtain ⟨_, _, _, h1, h2, _⟩ := w2; unfold maxLen at h2; omega
  have hgh := hide hg
  have hgh2 := hide hg2
  have hz := zeroRbk
  have hbox := hide (fun w' => box_two w x y 36 w')
  clear w0 w1 w2 hg hg2 hx hy
  go_enter Try.func6, Try.ntmps6
  go_wp2_with fail
  refine (pc_awake _).mono ?_
  rintro e w1 ⟨rfl, hb1⟩
  obtain ⟨c0, c1, hB⟩ := hbox.out _ hb1
  clear hbox hb1
  have hs1 := hB.size
  cases hr : bkRight x y
  · have hp := Lib.hid (pl_no x y a1 len1 cap1 w1 hr)
    clear hr hgh
    go_wp2_with fail
    refine hp.out.mono ?_
    rintro e w2 ⟨rfl, hb2⟩
    have hB2 := hB.trans (hb2.mono hs1)
    have hBs := hB2.size
    clear hb2 hB c0 c1
    go_wp2_with fail
    go_ret
    exact ⟨rfl, below_setRow (hB2.alloc hBs _) hBs _⟩
  · have hp := Lib.hid (pl_yes x y a1 len1 cap1 g w1 (hgh.out.below hB) hn hr)
    clear hr hgh
    go_wp2_with fail
    refine hp.out.mono ?_
    rintro e w2 ⟨s0, p, hok, rfl, hk, hpp, hb2⟩
    have hB2 := hB.trans (hb2.mono hs1)
    have hBs := hB2.size
    have hpl := hk.lt
    have hokh := Lib.hid hok
    have hkh := Lib.hid hk
    have hB2h := Lib.hid hB2
    clear hb2 hB c0 c1 hok hk hB2
    go_upto_region 6 with (fail)
    have hQ : blk ((w2.alloc (.cells (bkA z0B) 32)).setRow w2.heap.size (bkA s0)) w2.heap.size = some (.cells (bkA s0) 32 (0, 0)) := blk_of (setRow_heap _ _ _ _ _ _ (last_block0 w2 _ _ rfl))
    have hK : BkAt ((w2.alloc (.cells (bkA z0B) 32)).setRow w2.heap.size (bkA s0)) p s0 := (setRow_other _ _ _ _ (by omega)).trans (blk_alloc hkh.out _)
    have hB3 : Below w.heap.size w ((w2.alloc (.cells (bkA z0B) 32)).setRow w2.heap.size (bkA s0)) := below_setRow (hB2h.out.alloc hBs _) hBs _
    generalize World.setRow _ _ _ = W at hQ hK hB3 ⊢
    clear hkh hB2h
    have hqp : w2.heap.size ≠ p := by omega
    have hwp : w.heap.size ≤ p := by omega
    have cs := hK.c3
    have hKh := Lib.hid hK
    have hQh := Lib.hid hQ
    have hB3h := Lib.hid hB3
    clear hK hQ hB3
    go_wp2_with fail
    go_loopw [11, 12] (fun v i wr => ∃ (k : Nat) (T : Int) (s : BkS), k ≤ 100 ∧ k ≤ len2 ∧ i = .int .i64 k ∧ v = .int .i64 T ∧ 0 ≤ T ∧ T ≤ 1000000 * (k : Int) ∧ BkOk s (1677721600 + 16777216 * (k : Int)) ∧ Hid (BdOk s0 s T) ∧ BkAt wr p s ∧ blk wr w2.heap.size = some (.cells (bkA s0) 32 (0, 0)) ∧ Below w.heap.size w wr) (fun _ i _ => 100 - (intOf i).toNat)
    case atStart => exact ⟨0, 0, s0, by omega, by omega, rfl, rfl, by omega, by omega, BkOk.mono hokh.out (by omega), hide (bd_start s0), hKh.out, hQh.out, hB3h.out⟩
    case round =>
      obtain ⟨k, T, s, hk1, hk2, rfl, rfl, hT0, hT1, hok, hbd, hK, hQ, hB⟩ := hrel
      have hokr := Lib.hid hok
      have hKr := Lib.hid hK
      have hQr := Lib.hid hQ
      have hBr := Lib.hid hB
      have hKl := hK.lt
      have hBs := hB.size
      have hcc : k < len2 → ∃ (b off : Nat), a2 = some ⟨b, off, none⟩ ∧ ∀ w', Below w.heap.size w w' → w'.cell? ⟨b, off + k * 3, none⟩ = some (.int .i64 (g2 k).kind) ∧ w'.cell? ⟨b, off + k * 3 + 1, none⟩ = some (.int .i64 (g2 k).a) := by
        intro hk
        obtain ⟨b, off, h1, c0', c1', c2', c3⟩ := hgh2.out k hk
        exact ⟨b, off, h1, fun w' hb => ⟨(hb.cell (p := ⟨b, off + k * 3, none⟩) (cell_block_lt c0')).trans c0', (hb.cell (p := ⟨b, off + k * 3 + 1, none⟩) (cell_block_lt c1')).trans c1'⟩⟩
      have hoi : k < len2 → I64 (g2 k).kind ∧ I64 (g2 k).a := by
        intro hk
        obtain ⟨_, _, _, _, _, _, h1, h2, _⟩ := hgh2.out k hk
        exact ⟨h1, h2⟩
      clear hok hK hQ hB
      by_cases hlt : k < len2
      · by_cases hlt2 : k < 100
        · obtain ⟨b, off, rfl, hce⟩ := hcc hlt
          obtain ⟨⟨kk0, kk1⟩, ⟨ka0, ka1⟩⟩ := hoi hlt
          have hceh := hide hce
          obtain ⟨m0, m1⟩ := hce wr hBr.out
          clear hcc hoi hce
          generalize (g2 k).kind = kind at *
          generalize (g2 k).a = oa at *
          have i1 : (k : Int) < (len2 : Int) := by omega
          by_cases z0 : kind = 0
          · subst z0
            have htk := Lib.hid (s_take p s _ oa wr hKr.out hokr.out (by omega))
            have hok2 := Lib.hid (bkTake_ok s _ oa hokr.out)
            have hbd2 := Lib.hid (bd_take s0 s T oa hbd.out)
            generalize bkTake s oa = s1 at *
            go_wp2_with fail
            refine htk.out.mono ?_
            rintro e w3 ⟨rfl, hK3, hg3⟩
            have hK3h := Lib.hid hK3
            have hQ3h := Lib.hid ((blk_only hg3 hqp (blk_lt hQr.out)).trans hQr.out)
            have hB3' := Lib.hid (below_of_only hBr.out hg3 hBs hwp)
            obtain ⟨n0, n1⟩ := hceh.out w3 hB3'.out
            clear hK3 hg3 m0 m1 htk
            have tc2 := hK3h.out.c2
            have tc3 := hK3h.out.c3
            have tq0 : World.cell? w3 ⟨w2.heap.size, 0, none⟩ = some (.int .i64 s0.rate) := by rw [cell_of_block (blk_heap hQ3h.out)]; exact bkA_g0 s0
            have tq1 : World.cell? w3 ⟨w2.heap.size, 1, none⟩ = some (.int .i64 s0.burst) := by rw [cell_of_block (blk_heap hQ3h.out)]; exact bkA_g1 s0
            obtain ⟨e1, e2, e3⟩ := bd_law s0 s1 T _ _ hokh.out hok2.out hbd2.out
            obtain ⟨f1, f2, f3, f4, f5, f6, f7, f8⟩ := bd_rng s0 s1 T _ _ hokh.out hok2.out (by omega) (by omega)
            go_upto_region 15 with (fail)
            go_quiet (fail)
            go_wp2_with fail
            go_roundw
            case rel => exact ⟨k + 1, T, s1, by omega, by omega, by go_num, rfl, by omega, by omega, BkOk.mono hok2.out (by omega), hbd2, blk_drewN hK3h.out _, by rw [blk_drewN_at]; exact hQ3h.out, below_drewN hB3'.out _⟩
            case measure => simp [intOf]; omega
          · have z0d : (kind == 0) = false := by simp; exact z0
            by_cases z1 : kind = 1
            · subst z1
              by_cases z2 : 0 ≤ oa
              · have z2d : decide (oa ≥ 0) = true := decide_eq_true z2
                by_cases z3 : oa ≤ 1000000
                · have z3d : decide (oa ≤ 1000000) = true := decide_eq_true z3
                  have htk := Lib.hid (s_tick p s _ oa wr hKr.out hokr.out (by omega))
                  have hok2 := Lib.hid (bkTick_ok s _ oa hokr.out)
                  have hbd2 := Lib.hid (bd_tick s0 s _ T oa hokr.out hbd.out z2 z3)
                  generalize bkTick s oa = s1 at *
                  go_wp2_with fail
                  refine htk.out.mono ?_
                  rintro e w3 ⟨rfl, hK3, hg3⟩
                  have hK3h := Lib.hid hK3
                  have hQ3h := Lib.hid ((blk_only hg3 hqp (blk_lt hQr.out)).trans hQr.out)
                  have hB3' := Lib.hid (below_of_only hBr.out hg3 hBs hwp)
                  obtain ⟨n0, n1⟩ := hceh.out w3 hB3'.out
                  clear hK3 hg3 m0 m1 htk
                  have tc2 := hK3h.out.c2
                  have tc3 := hK3h.out.c3
                  have tq0 : World.cell? w3 ⟨w2.heap.size, 0, none⟩ = some (.int .i64 s0.rate) := by rw [cell_of_block (blk_heap hQ3h.out)]; exact bkA_g0 s0
                  have tq1 : World.cell? w3 ⟨w2.heap.size, 1, none⟩ = some (.int .i64 s0.burst) := by rw [cell_of_block (blk_heap hQ3h.out)]; exact bkA_g1 s0
                  obtain ⟨e1, e2, e3⟩ := bd_law s0 s1 (T + oa) _ _ hokh.out hok2.out hbd2.out
                  obtain ⟨f1, f2, f3, f4, f5, f6, f7, f8⟩ := bd_rng s0 s1 (T + oa) _ _ hokh.out hok2.out (by omega) (by omega)
                  go_upto_region 15 with (fail)
                  go_quiet (fail)
                  go_wp2_with fail
                  go_roundw
                  case rel => exact ⟨k + 1, (T + oa), s1, by omega, by omega, by go_num, rfl, by omega, by omega, BkOk.mono hok2.out (by omega), hbd2, blk_drewN hK3h.out _, by rw [blk_drewN_at]; exact hQ3h.out, below_drewN hB3'.out _⟩
                  case measure => simp [intOf]; omega
                · have z3d : decide (oa ≤ 1000000) = false := decide_eq_false z3
                  have tc2 := hKr.out.c2
                  have tc3 := hKr.out.c3
                  have tq0 : World.cell? wr ⟨w2.heap.size, 0, none⟩ = some (.int .i64 s0.rate) := by rw [cell_of_block (blk_heap hQr.out)]; exact bkA_g0 s0
                  have tq1 : World.cell? wr ⟨w2.heap.size, 1, none⟩ = some (.int .i64 s0.burst) := by rw [cell_of_block (blk_heap hQr.out)]; exact bkA_g1 s0
                  obtain ⟨e1, e2, e3⟩ := bd_law s0 s T _ _ hokh.out hokr.out hbd.out
                  obtain ⟨f1, f2, f3, f4, f5, f6, f7, f8⟩ := bd_rng s0 s T _ _ hokh.out hokr.out (by omega) (by omega)
                  go_upto_region 15 with (fail)
                  go_quiet (fail)
                  go_wp2_with fail
                  go_roundw
                  case rel => exact ⟨k + 1, T, s, by omega, by omega, by go_num, rfl, by omega, by omega, BkOk.mono hokr.out (by omega), hbd, blk_drewN hKr.out _, by rw [blk_drewN_at]; exact hQr.out, below_drewN hBr.out _⟩
                  case measure => simp [intOf]; omega
              · have z2d : decide (oa ≥ 0) = false := decide_eq_false z2
                have tc2 := hKr.out.c2
                have tc3 := hKr.out.c3
                have tq0 : World.cell? wr ⟨w2.heap.size, 0, none⟩ = some (.int .i64 s0.rate) := by rw [cell_of_block (blk_heap hQr.out)]; exact bkA_g0 s0
                have tq1 : World.cell? wr ⟨w2.heap.size, 1, none⟩ = some (.int .i64 s0.burst) := by rw [cell_of_block (blk_heap hQr.out)]; exact bkA_g1 s0
                obtain ⟨e1, e2, e3⟩ := bd_law s0 s T _ _ hokh.out hokr.out hbd.out
                obtain ⟨f1, f2, f3, f4, f5, f6, f7, f8⟩ := bd_rng s0 s T _ _ hokh.out hokr.out (by omega) (by omega)
                go_upto_region 15 with (fail)
                go_quiet (fail)
                go_wp2_with fail
                go_roundw
                case rel => exact ⟨k + 1, T, s, by omega, by omega, by go_num, rfl, by omega, by omega, BkOk.mono hokr.out (by omega), hbd, blk_drewN hKr.out _, by rw [blk_drewN_at]; exact hQr.out, below_drewN hBr.out _⟩
                case measure => simp [intOf]; omega
            · have z1d : (kind == 1) = false := by simp; exact z1
              have tc2 := hKr.out.c2
              have tc3 := hKr.out.c3
              have tq0 : World.cell? wr ⟨w2.heap.size, 0, none⟩ = some (.int .i64 s0.rate) := by rw [cell_of_block (blk_heap hQr.out)]; exact bkA_g0 s0
              have tq1 : World.cell? wr ⟨w2.heap.size, 1, none⟩ = some (.int .i64 s0.burst) := by rw [cell_of_block (blk_heap hQr.out)]; exact bkA_g1 s0
              obtain ⟨e1, e2, e3⟩ := bd_law s0 s T _ _ hokh.out hokr.out hbd.out
              obtain ⟨f1, f2, f3, f4, f5, f6, f7, f8⟩ := bd_rng s0 s T _ _ hokh.out hokr.out (by omega) (by omega)
              go_upto_region 15 with (fail)
              go_quiet (fail)
              go_wp2_with fail
              go_roundw
              case rel => exact ⟨k + 1, T, s, by omega, by omega, by go_num, rfl, by omega, by omega, BkOk.mono hokr.out (by omega), hbd, blk_drewN hKr.out _, by rw [blk_drewN_at]; exact hQr.out, below_drewN hBr.out _⟩
              case measure => simp [intOf]; omega
        · have hd2 : decide ((k : Int) < 100) = false := decide_eq_false (by omega)
          go_wp2_with fail
          go_ret
          exact ⟨rfl, hBr.out⟩
      · have hd1 : decide ((k : Int) < (len2 : Int)) = false := decide_eq_false (by omega)
        go_wp2_with fail
        go_ret
        exact ⟨rfl, hBr.out⟩
end Go.Proofs.Ytchpiiccdoejdaa
