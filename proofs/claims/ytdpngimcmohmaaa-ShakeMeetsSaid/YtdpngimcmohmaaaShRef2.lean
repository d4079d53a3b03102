/- The document's 27: Start and Tick. Conditions: the state's numbers are of their kinds and not too great. -/
import Derived.Test.YtdpngimcmohmaaaShRef
namespace Go.Proofs.Ytdpngimcmohmaaa
open Go.RowKit
/-- what Start does to the state, and answers -/
def shStart (s : ShS) : ShS × (Int × Int × Int) × Int := if s.st = 0 then ({ s with st := 1, k := s.k + 1, q := 0 }, (1, tokZ s.own s.rd, 0), 0) else (s, (0, 0, 0), 270)
attribute [local irreducible] tokZ rsA dgmA dgA dBuild blk wLoad wLoadRes loadAns wStore wStoreRes storeAns Plain
attribute [local go_sem ↓] dBuild_of ld_rs0 sto_rs0 ld_dg0 sto_dg0
attribute [local go_sem] dBuild_0 dBuild_5 dBuild_6 ld_rs sto_rs ld_dg sto_dg loadAns_some storeAns_some rs_size rs_plain dg_size dg_plain dgA_size blk_alloc_if blk_setRow_if blk_drew_at blk_drewN_at rowPut_some
set_option maxRecDepth 100000 in
/-- the end of a function that answers with a state, a datagram and a word -/
theorem rs_ret {fn : Func} {p q u : Tmp} (h : fn.results = #[.cell p 48, .cell q 34, .tmp u]) {tmps : Array Value} {W V w : World} {g1 g2 : Nat} {C1 C2 : Array Value} {s : ShS} {a b c : Int} {x : Value}
    (h1 : blk V g1 = some (.cells C1 48 (0, 0))) (h2 : blk V g2 = some (.cells C2 34 (0, 0))) (hne : g1 < g2) (hb : Below w.heap.size w V) (hg : w.heap.size ≤ g1)
    (hW : W = (V.setRow g1 (rsA s)).setRow g2 (dgmA a b c)) (hp : tmps.getD p undef = .pointer (some ⟨g1, 0, none⟩)) (hq : tmps.getD q undef = .pointer (some ⟨g2, 0, none⟩)) (hx : tmps.getD u undef = x) :
    bodyPost Try.prog fn (Ret w (.tuple #[.agg (rsA s), .agg (dgmA a b c), x])) .normal ⟨tmps, []⟩ W := by
  obtain ⟨k1, k2⟩ := two_rows h1 h2 (by omega) (rsA s) (dgmA a b c)
  subst hW
  refine bodyPost_ret (results_row2_tmp h _ _ g1 48 (rsA s) (0, 0) _ g2 34 (dgmA a b c) (0, 0) _ x hp hq hx k1 k2 Try.underlying48 rfl (rs_infoA _) Try.underlying34 rfl (dgm_info _ (dg_size _ _ _))) rfl ⟨rfl, ?_⟩
  exact below_setRow (below_setRow hb hg _) (by omega) _
set_option maxRecDepth 100000 in
set_option maxHeartbeats 1000000 in
theorem r_start_no (s : ShS) (w : World) (hst : (s.st != 0) = true) :
    Calls Try.prog 18 #[.agg (rsA s)] w (Ret w (.tuple #[.agg (rsA s), .agg (dgmA 0 0 0), .int .i64 270])) := by
  have hz := zeroDg
  have hz2 := zeroRs
  obtain ⟨b0, b1, b2, hsz, hB⟩ := three_boxes w (.cells (rsA s) 48) (.cells (rsA zRs) 48) (.cells (dgmA 0 0 0) 34)
  go_enter Try.func18, Try.ntmps18
  go_upto_region 1 with (fail)
  generalize World.alloc (World.alloc (World.alloc w _) _) _ = W at *
  have c0 : W.cell? ⟨w.heap.size, 0, none⟩ = some (.int .i64 s.st) := (cell_of_block b0).trans (rsA_c0 s)
  have k0 := blk_of b0
  have k1 := blk_of b1
  have k2 := blk_of b2
  have hBh := Lib.hid hB
  clear b0 b1 b2 hB hz hz2 hsz
  go_wp2_with fail
  exact rs_ret rfl k1 k2 (by omega) hBh.out (by omega) rfl rfl rfl rfl
set_option maxRecDepth 100000 in
set_option maxHeartbeats 1000000 in
theorem r_start_yes (s : ShS) (w : World) (ok : ShOk s) (hst : s.st = 0) :
    Calls Try.prog 18 #[.agg (rsA s)] w (Ret w (.tuple #[.agg (rsA { s with st := 1, k := s.k + 1, q := 0 }), .agg (dgmA 1 (tokZ s.own s.rd) 0), .int .i64 0])) := by
  have hz := zeroDg
  have hz2 := zeroRs
  obtain ⟨b0, b1, b2, hsz, hB⟩ := three_boxes w (.cells (rsA s) 48) (.cells (rsA zRs) 48) (.cells (dgmA 0 0 0) 34)
  go_enter Try.func18, Try.ntmps18
  go_upto_region 1 with (fail)
  generalize World.alloc (World.alloc (World.alloc w _) _) _ = W at *
  have c0 : W.cell? ⟨w.heap.size, 0, none⟩ = some (.int .i64 0) := (cell_of_block b0).trans (by rw [rsA_c0, hst])
  have f0 : W.frozen? ⟨w.heap.size, 0, none⟩ = false := frozen_of_row W _ 0 _ _ b0
  have b0h := Lib.hid b0
  have b1h := Lib.hid b1
  have b2h := Lib.hid b2
  have hBh := Lib.hid hB
  have hsW : w.heap.size + 3 ≤ W.heap.size := by omega
  clear b0 b1 b2 hB hsz hst
  go_upto_region 4 with (fail)
  have k0 : blk (W.setCell ⟨w.heap.size, 0, none⟩ (.int .i64 1)) w.heap.size = some (.cells (rsA { s with st := 1 }) 48 (0, 0)) := by
    refine blk_of ?_
    rw [blk_set b0h.out 0 _, rsA_s0]
  have k1 : blk (W.setCell ⟨w.heap.size, 0, none⟩ (.int .i64 1)) (w.heap.size + 1) = some (.cells (rsA zRs) 48 (0, 0)) := by
    rw [blk_setCell_ne _ _ _ _ _ (by omega)]; exact blk_of b1h.out
  have k2 : blk (W.setCell ⟨w.heap.size, 0, none⟩ (.int .i64 1)) (w.heap.size + 1 + 1) = some (.cells (dgmA 0 0 0) 34 (0, 0)) := by
    rw [blk_setCell_ne _ _ _ _ _ (by omega)]; exact blk_of b2h.out
  have hBv : Below w.heap.size w (W.setCell ⟨w.heap.size, 0, none⟩ (.int .i64 1)) := hBh.out.setCell (Nat.le_refl _) _
  have hsV : w.heap.size + 3 ≤ (W.setCell ⟨w.heap.size, 0, none⟩ (.int .i64 1)).heap.size := by simpa [World.setCell] using hsW
  generalize World.setCell W _ _ = V at *
  clear c0 f0 b0h b1h b2h hBh hsW
  have hBvh := Lib.hid hBv
  have k1h := Lib.hid k1
  have k2h := Lib.hid k2
  clear hBv k1 k2
  go_wp2_with fail
  refine (r_ask { s with st := 1 } V ⟨ok.o1, ok.o2, ok.r1, ok.r2, ok.q1, ok.q2, ok.k1, ok.k2⟩).mono ?_
  rintro e X ⟨rfl, hX⟩
  have k1 := (blk_below hX (by omega)).trans k1h.out
  have k2 := (blk_below hX (by omega)).trans k2h.out
  have hBX : Hid (Below w.heap.size w X) := hide (hBvh.out.trans (hX.mono (by omega)))
  have hsX : w.heap.size + 3 ≤ X.heap.size := by have := hX.size; omega
  clear hX k0 k1h k2h hBvh hsV
  go_upto_region 5 with (fail)
  obtain ⟨q1, q2, q3, q4, q5⟩ := box_two X (rsA zRs) (dgmA 0 0 0) (rsA { s with st := 1, k := s.k + 1, q := 0 }) (dgmA 1 (tokZ s.own s.rd) 0) 48 34
  have k1 := (q3 _ (by omega)).trans k1
  have k2 := (q3 _ (by omega)).trans k2
  have hBY := Lib.hid (hBX.out.trans (q5.mono (by omega)))
  have hsY : w.heap.size + 3 ≤ X.heap.size := hsX
  clear q3 q5 hBX
  generalize World.setRow (World.setRow (World.alloc (World.alloc X _) _) _ _) _ _ = Y at *
  generalize X.heap.size = x at *
  go_region
  all_goals
    go_wp2_with fail
    exact rs_ret rfl ((blk_drew_at Y _).trans k1) ((blk_drew_at Y _).trans k2) (by omega) (below_drewN hBY.out 1) (by omega) rfl rfl rfl rfl
set_option maxRecDepth 100000 in
theorem r_start (s : ShS) (w : World) (ok : ShOk s) : Calls Try.prog 18 #[.agg (rsA s)] w (Ret w (.tuple #[.agg (rsA (shStart s).1), dV (shStart s).2.1, .int .i64 (shStart s).2.2])) := by
  unfold shStart
  by_cases h : s.st = 0
  · rw [if_pos h]; exact r_start_yes s w ok h
  · rw [if_neg h]; exact r_start_no s w (by simpa using h)
set_option maxRecDepth 100000 in
set_option maxHeartbeats 1000000 in
theorem r_tick_no (s : ShS) (w : World) (hst : (s.st != 1) = true) :
    Calls Try.prog 22 #[.agg (rsA s)] w (Ret w (.tuple #[.agg (rsA s), .agg (dgmA 0 0 0), .bool false])) := by
  have hz := zeroDg
  have hz2 := zeroRs
  obtain ⟨b0, b1, b2, hsz, hB⟩ := three_boxes w (.cells (rsA s) 48) (.cells (rsA zRs) 48) (.cells (dgmA 0 0 0) 34)
  go_enter Try.func22, Try.ntmps22
  go_upto_region 1 with (fail)
  generalize World.alloc (World.alloc (World.alloc w _) _) _ = W at *
  have c0 : W.cell? ⟨w.heap.size, 0, none⟩ = some (.int .i64 s.st) := (cell_of_block b0).trans (rsA_c0 s)
  have k0 := blk_of b0
  have k1 := blk_of b1
  have k2 := blk_of b2
  have hBh := Lib.hid hB
  clear b0 b1 b2 hB hz hz2 hsz
  go_wp2_with fail
  exact rs_ret rfl k1 k2 (by omega) hBh.out (by omega) rfl rfl rfl rfl
set_option maxRecDepth 100000 in
set_option maxHeartbeats 1000000 in
theorem r_tick_yes (s : ShS) (w : World) (ok : ShOk s) (hq9 : s.q ≤ 999999) (hst : s.st = 1) (Z : ShS × (Int × Int × Int) × Bool) (hZ : Z = if s.q + 1 < 10 then ({ s with q := s.q + 1 }, (0, 0, 0), false) else ({ s with k := s.k + 1, q := 0 }, (1, tokZ s.own s.rd, 0), true)) :
    Calls Try.prog 22 #[.agg (rsA s)] w (Ret w (.tuple #[.agg (rsA Z.1), dV Z.2.1, .bool Z.2.2])) := by
  have hz := zeroDg
  have hz2 := zeroRs
  obtain ⟨b0, b1, b2, hsz, hB⟩ := three_boxes w (.cells (rsA s) 48) (.cells (rsA zRs) 48) (.cells (dgmA 0 0 0) 34)
  have hq1 := ok.q1
  go_enter Try.func22, Try.ntmps22
  go_upto_region 1 with (fail)
  generalize World.alloc (World.alloc (World.alloc w _) _) _ = W at *
  have c0 : W.cell? ⟨w.heap.size, 0, none⟩ = some (.int .i64 1) := (cell_of_block b0).trans (by rw [rsA_c0, hst])
  have c4 : W.cell? ⟨w.heap.size, 4, none⟩ = some (.int .i64 s.q) := (cell_of_block b0).trans (rsA_c4 s)
  have f4 : W.frozen? ⟨w.heap.size, 4, none⟩ = false := frozen_of_row W _ 4 _ _ b0
  have b0h := Lib.hid b0
  have b1h := Lib.hid b1
  have b2h := Lib.hid b2
  have hBh := Lib.hid hB
  have hsW : w.heap.size + 3 ≤ W.heap.size := by omega
  clear b0 b1 b2 hB hsz
  have hsth := Lib.hid hst
  have hZh := Lib.hid hZ
  clear hst hZ
  go_upto_region 4 with (fail)
  have k0 : blk (W.setCell ⟨w.heap.size, 4, none⟩ (.int .i64 (s.q + 1))) w.heap.size = some (.cells (rsA { s with q := s.q + 1 }) 48 (0, 0)) := by
    refine blk_of ?_
    rw [blk_set b0h.out 4 _, rsA_s4]
  have k1 : blk (W.setCell ⟨w.heap.size, 4, none⟩ (.int .i64 (s.q + 1))) (w.heap.size + 1) = some (.cells (rsA zRs) 48 (0, 0)) := by
    rw [blk_setCell_ne _ _ _ _ _ (by omega)]; exact blk_of b1h.out
  have k2 : blk (W.setCell ⟨w.heap.size, 4, none⟩ (.int .i64 (s.q + 1))) (w.heap.size + 1 + 1) = some (.cells (dgmA 0 0 0) 34 (0, 0)) := by
    rw [blk_setCell_ne _ _ _ _ _ (by omega)]; exact blk_of b2h.out
  have hBv : Below w.heap.size w (W.setCell ⟨w.heap.size, 4, none⟩ (.int .i64 (s.q + 1))) := hBh.out.setCell (Nat.le_refl _) _
  have hsV : w.heap.size + 3 ≤ (W.setCell ⟨w.heap.size, 4, none⟩ (.int .i64 (s.q + 1))).heap.size := by simpa [World.setCell] using hsW
  generalize World.setCell W _ _ = V at *
  have c4 : V.cell? ⟨w.heap.size, 4, none⟩ = some (.int .i64 (s.q + 1)) := (cell_of_block (blk_heap k0)).trans (rsA_c4 _)
  clear c0 f4 b0h b1h b2h hBh hsW
  have hBvh := Lib.hid hBv
  clear hBv
  by_cases hq : s.q + 1 < 10
  · obtain rfl := hZh.out.trans (if_pos hq)
    go_wp2_with fail
    exact rs_ret rfl k1 k2 (by omega) hBvh.out (by omega) rfl rfl rfl rfl
  · obtain rfl := hZh.out.trans (if_neg hq)
    have hq' : 10 ≤ s.q + 1 := by omega
    have k1h := Lib.hid k1
    have k2h := Lib.hid k2
    clear k1 k2 hq
    go_wp2_with fail
    refine (r_ask { s with q := s.q + 1 } V ⟨ok.o1, ok.o2, ok.r1, ok.r2, by simp; omega, by simp; omega, ok.k1, ok.k2⟩).mono ?_
    rintro e X ⟨rfl, hX⟩
    have k1 := (blk_below hX (by omega)).trans k1h.out
    have k2 := (blk_below hX (by omega)).trans k2h.out
    have hBX : Hid (Below w.heap.size w X) := hide (hBvh.out.trans (hX.mono (by omega)))
    have hsX : w.heap.size + 3 ≤ X.heap.size := by have := hX.size; omega
    clear hX k0 k1h k2h hBvh hsV c4
    go_upto_region 7 with (fail)
    obtain ⟨q1, q2, q3, q4, q5⟩ := box_two X (rsA zRs) (dgmA 0 0 0) (rsA { s with k := s.k + 1, q := 0 }) (dgmA 1 (tokZ s.own s.rd) 0) 48 34
    have k1 := (q3 _ (by omega)).trans k1
    have k2 := (q3 _ (by omega)).trans k2
    have hBY := Lib.hid (hBX.out.trans (q5.mono (by omega)))
    clear q3 q5 hBX
    generalize World.setRow (World.setRow (World.alloc (World.alloc X _) _) _ _) _ _ = Y at *
    generalize X.heap.size = x at *
    go_region
    all_goals
      go_wp2_with fail
      exact rs_ret rfl ((blk_drew_at Y _).trans k1) ((blk_drew_at Y _).trans k2) (by omega) (below_drewN hBY.out 1) (by omega) rfl rfl rfl rfl
set_option maxRecDepth 100000 in
theorem r_tick (s : ShS) (w : World) (ok : ShOk s) (hq9 : s.q ≤ 999999) : Calls Try.prog 22 #[.agg (rsA s)] w (Ret w (.tuple #[.agg (rsA (shTick s).1), dV (shTick s).2.1, .bool (shTick s).2.2])) := by
  unfold shTick
  by_cases h : s.st = 1
  · rw [if_neg (by simp [h])]; exact r_tick_yes s w ok hq9 h _ rfl
  · rw [if_pos h]; exact r_tick_no s w (by simpa using h)
end Go.Proofs.Ytdpngimcmohmaaa
