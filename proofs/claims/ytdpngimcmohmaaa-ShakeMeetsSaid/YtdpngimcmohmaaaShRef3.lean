/- The document's 27: Take. Conditions: the state's numbers are of their kinds and not too great. -/
import Derived.Test.YtdpngimcmohmaaaShRef2
namespace Go.Proofs.Ytdpngimcmohmaaa
open Go.RowKit
set_option maxRecDepth 100000 in
theorem dgA_c0 (d : DgS) : (dgA d)[0]? = some (.int .i64 d.kind) := rfl
set_option maxRecDepth 100000 in
theorem dgA_c5 (d : DgS) : (dgA d)[5]? = some (.int .u32 d.a) := rfl
set_option maxRecDepth 100000 in
theorem dgA_c6 (d : DgS) : (dgA d)[6]? = some (.int .u32 d.b) := rfl
attribute [local irreducible] tokZ rsA dgmA dgA dBuild blk wLoad wLoadRes loadAns wStore wStoreRes storeAns Plain
attribute [local go_sem ↓] dBuild_of ld_rs0 sto_rs0 ld_dg0 sto_dg0
attribute [local go_sem] dBuild_0 dBuild_5 dBuild_6 ld_rs sto_rs ld_dg sto_dg loadAns_some storeAns_some rs_size rs_plain dg_size dg_plain dgA_size blk_alloc_if blk_setRow_if blk_drew_at blk_drewN_at rowPut_some
set_option maxRecDepth 100000 in
theorem quiet_same2 {P : Program} {f : FuncId} {args : Array Value} {w : World} {n : Nat} {v : Value} (h : Calls P f args (w.drewN n) fun e w' => e = .returned v ∧ w.drewN n = w') : Calls P f args (w.drewN n) fun e w'' => e = .returned v ∧ ∃ m, w'' = w.drewN m :=
  h.mono fun _ _ ⟨he, hm⟩ => ⟨he, n, hm.symm⟩
set_option maxRecDepth 100000 in
theorem boxes5 (w : World) (A B C D E : Obj) :
    (((((w.alloc A).alloc B).alloc C).alloc D).alloc E).heap[w.heap.size]? = some A ∧ (((((w.alloc A).alloc B).alloc C).alloc D).alloc E).heap[w.heap.size + 1]? = some B ∧ (((((w.alloc A).alloc B).alloc C).alloc D).alloc E).heap[w.heap.size + 1 + 1]? = some C ∧ (((((w.alloc A).alloc B).alloc C).alloc D).alloc E).heap[w.heap.size + 1 + 1 + 1]? = some D ∧ (((((w.alloc A).alloc B).alloc C).alloc D).alloc E).heap[w.heap.size + 1 + 1 + 1 + 1]? = some E ∧
    (((((w.alloc A).alloc B).alloc C).alloc D).alloc E).heap.size = w.heap.size + 5 ∧ Below w.heap.size w (((((w.alloc A).alloc B).alloc C).alloc D).alloc E) := by
  have s1 : ∀ (u : World) (o : Obj), (u.alloc o).heap.size = u.heap.size + 1 := fun u o => by show (u.heap.push _).size = _; rw [Array.size_push]
  obtain ⟨h0, h1, h2, hs, hb⟩ := three_boxes w A B C
  refine ⟨blk_alloc (blk_alloc h0 _) _, blk_alloc (blk_alloc h1 _) _, blk_alloc (blk_alloc h2 _) _, blk_alloc (last_block0 _ _ _ (by rw [hs])) _, last_block0 _ _ _ (by rw [s1, hs]), by rw [s1, s1, hs], ?_⟩
  exact (hb.alloc (by rw [hs]; omega) _).alloc (by rw [s1, hs]; omega) _
set_option maxRecDepth 100000 in
/-- the end of a function that answers with a state, a datagram and two words -/
theorem rs_ret4 {fn : Func} {p q u v : Tmp} (h : fn.results = #[.cell p 48, .cell q 34, .tmp u, .tmp v]) {tmps : Array Value} {W V w : World} {g1 g2 : Nat} {C1 C2 : Array Value} {s : ShS} {a b c : Int} {x y : Value}
    (h1 : blk V g1 = some (.cells C1 48 (0, 0))) (h2 : blk V g2 = some (.cells C2 34 (0, 0))) (hne : g1 < g2) (hb : Below w.heap.size w V) (hg : w.heap.size ≤ g1)
    (hW : W = (V.setRow g1 (rsA s)).setRow g2 (dgmA a b c)) (hp : tmps.getD p undef = .pointer (some ⟨g1, 0, none⟩)) (hq : tmps.getD q undef = .pointer (some ⟨g2, 0, none⟩)) (hx : tmps.getD u undef = x) (hy : tmps.getD v undef = y) :
    bodyPost Try.prog fn (Ret w (.tuple #[.agg (rsA s), .agg (dgmA a b c), x, y])) .normal ⟨tmps, []⟩ W := by
  obtain ⟨k1, k2⟩ := two_rows h1 h2 (by omega) (rsA s) (dgmA a b c)
  subst hW
  refine bodyPost_ret (results_row2_tmp2 h _ _ g1 48 (rsA s) (0, 0) _ g2 34 (dgmA a b c) (0, 0) _ x y hp hq hx hy k1 k2 Try.underlying48 rfl (rs_infoA _) Try.underlying34 rfl (dgm_info _ (dg_size _ _ _))) rfl ⟨rfl, ?_⟩
  exact below_setRow (below_setRow hb hg _) (by omega) _
set_option maxRecDepth 100000 in
set_option maxHeartbeats 1000000 in
theorem r_take_kind (s : ShS) (d : DgS) (w : World) (hk : (d.kind != 1) = true) :
    Calls Try.prog 26 #[.agg (rsA s), .agg (dgA d)] w (Ret w (.tuple #[.agg (rsA s), .agg (dgmA 0 0 0), .bool false, .int .i64 72])) := by
  have hz := zeroDg
  have hz2 := zeroRs
  obtain ⟨b0, b1, b2, b3, b4, hsz, hB⟩ := boxes5 w (.cells (rsA s) 48) (.cells (dgA d) 34) (.cells (rsA zRs) 48) (.cells (dgmA 0 0 0) 34) (.cells (dgmA 0 0 0) 34)
  go_enter Try.func26, Try.ntmps26
  go_upto_region 2 with (fail)
  generalize World.alloc (World.alloc (World.alloc (World.alloc (World.alloc w _) _) _) _) _ = W at *
  have d0 : W.cell? ⟨w.heap.size + 1, 0, none⟩ = some (.int .i64 d.kind) := (cell_of_block b1).trans (dgA_c0 d)
  have k0 := blk_of b0
  have k2 := blk_of b2
  have k3 := blk_of b3
  have k4 := blk_of b4
  have hBh := Lib.hid hB
  clear b0 b1 b2 b3 b4 hB hz2 hsz
  go_upto_region 3 with (fail)
  go_region
  all_goals
    go_wp2_with fail
    exact rs_ret4 rfl ((blk_drew_at W _).trans k2) ((blk_drew_at W _).trans k3) (by omega) (below_drewN hBh.out 1) (by omega) rfl rfl rfl rfl rfl
set_option maxRecDepth 100000 in
set_option maxHeartbeats 1000000 in
theorem r_take_state (s : ShS) (d : DgS) (w : World) (hk : d.kind = 1) (h1 : (s.st != 1) = true) (h2 : (s.st != 2) = true) :
    Calls Try.prog 26 #[.agg (rsA s), .agg (dgA d)] w (Ret w (.tuple #[.agg (rsA s), .agg (dgmA 0 0 0), .bool false, .int .i64 270])) := by
  have hz := zeroDg
  have hz2 := zeroRs
  obtain ⟨b0, b1, b2, b3, b4, hsz, hB⟩ := boxes5 w (.cells (rsA s) 48) (.cells (dgA d) 34) (.cells (rsA zRs) 48) (.cells (dgmA 0 0 0) 34) (.cells (dgmA 0 0 0) 34)
  go_enter Try.func26, Try.ntmps26
  go_upto_region 2 with (fail)
  generalize World.alloc (World.alloc (World.alloc (World.alloc (World.alloc w _) _) _) _) _ = W at *
  have d0 : W.cell? ⟨w.heap.size + 1, 0, none⟩ = some (.int .i64 1) := (cell_of_block b1).trans (by rw [dgA_c0, hk])
  have c0 : W.cell? ⟨w.heap.size, 0, none⟩ = some (.int .i64 s.st) := (cell_of_block b0).trans (rsA_c0 s)
  clear hk
  have k0 := blk_of b0
  have k2 := blk_of b2
  have k3 := blk_of b3
  have k4 := blk_of b4
  have hBh := Lib.hid hB
  clear b0 b1 b2 b3 b4 hB hz2 hsz
  go_upto_region 5 with (fail)
  go_region
  all_goals
    go_wp2_with fail
    exact rs_ret4 rfl ((blk_drew_at W _).trans k2) ((blk_drew_at W _).trans k3) (by omega) (below_drewN hBh.out 1) (by omega) rfl rfl rfl rfl rfl
set_option maxRecDepth 100000 in
set_option maxHeartbeats 1000000 in
theorem r_take_ask1 (s : ShS) (d : DgS) (w : World) (hk : d.kind = 1) (h1 : s.st = 1) (ha : (d.a != 0) = true) :
    Calls Try.prog 26 #[.agg (rsA s), .agg (dgA d)] w (Ret w (.tuple #[.agg (rsA { s with peer := d.a }), .agg (dgmA 1 0 d.a), .bool true, .int .i64 0])) := by
  have hz := zeroDg
  have hz2 := zeroRs
  obtain ⟨b0, b1, b2, b3, b4, hsz, hB⟩ := boxes5 w (.cells (rsA s) 48) (.cells (dgA d) 34) (.cells (rsA zRs) 48) (.cells (dgmA 0 0 0) 34) (.cells (dgmA 0 0 0) 34)
  go_enter Try.func26, Try.ntmps26
  go_upto_region 2 with (fail)
  generalize World.alloc (World.alloc (World.alloc (World.alloc (World.alloc w _) _) _) _) _ = W at *
  have d0 : W.cell? ⟨w.heap.size + 1, 0, none⟩ = some (.int .i64 1) := (cell_of_block b1).trans (by rw [dgA_c0, hk])
  have c0 : W.cell? ⟨w.heap.size, 0, none⟩ = some (.int .i64 1) := (cell_of_block b0).trans (by rw [rsA_c0, h1])
  have d5 : W.cell? ⟨w.heap.size + 1, 5, none⟩ = some (.int .u32 d.a) := (cell_of_block b1).trans (dgA_c5 d)
  have c2 : W.cell? ⟨w.heap.size, 2, none⟩ = some (.int .u32 s.peer) := (cell_of_block b0).trans (rsA_c2 s)
  have f2 : W.frozen? ⟨w.heap.size, 2, none⟩ = false := frozen_of_row W _ 2 _ _ b0
  clear hk h1
  have b0h := Lib.hid b0
  have b1h := Lib.hid b1
  have b2h := Lib.hid b2
  have b3h := Lib.hid b3
  have hBh := Lib.hid hB
  clear b0 b1 b2 b3 b4 hB hz2 hsz
  go_upto_region 8 with (fail)
  have k0 : blk (W.setCell ⟨w.heap.size, 2, none⟩ (.int .u32 d.a)) w.heap.size = some (.cells (rsA { s with peer := d.a }) 48 (0, 0)) := by
    refine blk_of ?_
    rw [blk_set b0h.out 2 _, rsA_s2]
  have k2 : blk (W.setCell ⟨w.heap.size, 2, none⟩ (.int .u32 d.a)) (w.heap.size + 1 + 1) = some (.cells (rsA zRs) 48 (0, 0)) := by
    rw [blk_setCell_ne _ _ _ _ _ (by omega)]; exact blk_of b2h.out
  have k3 : blk (W.setCell ⟨w.heap.size, 2, none⟩ (.int .u32 d.a)) (w.heap.size + 1 + 1 + 1) = some (.cells (dgmA 0 0 0) 34 (0, 0)) := by
    rw [blk_setCell_ne _ _ _ _ _ (by omega)]; exact blk_of b3h.out
  have d5 : (W.setCell ⟨w.heap.size, 2, none⟩ (.int .u32 d.a)).cell? ⟨w.heap.size + 1, 5, none⟩ = some (.int .u32 d.a) := by
    have h : (W.setCell ⟨w.heap.size, 2, none⟩ (.int .u32 d.a)).heap[w.heap.size + 1]? = _ := (heap_setCell_other W ⟨w.heap.size, 2, none⟩ (w.heap.size + 1) _ (by show _ ≠ w.heap.size; omega)).trans b1h.out
    exact (cell_of_block h).trans (dgA_c5 d)
  have hBv : Below w.heap.size w (W.setCell ⟨w.heap.size, 2, none⟩ (.int .u32 d.a)) := hBh.out.setCell (Nat.le_refl _) _
  generalize World.setCell W _ _ = V at *
  clear c0 c2 f2 d0 b0h b1h b2h b3h hBh
  have hBh := Lib.hid hBv
  clear hBv
  have d5r : (V.drew.setRow (w.heap.size + 1 + 1) (rsA { s with peer := d.a })).cell? ⟨w.heap.size + 1, 5, none⟩ = some (.int .u32 d.a) := (World.cell?_of_block ((setRow_other V.drew (w.heap.size + 1 + 1) (w.heap.size + 1) _ (by omega)))).trans d5
  go_region
  all_goals
    go_wp2_with fail
    exact rs_ret4 rfl ((blk_drew_at V _).trans k2) ((blk_drew_at V _).trans k3) (by omega) (below_drewN hBh.out 1) (by omega) rfl rfl rfl rfl rfl
set_option maxRecDepth 100000 in
set_option maxHeartbeats 1000000 in
theorem r_take_ask2 (s : ShS) (d : DgS) (w : World) (hk : d.kind = 1) (h1 : s.st = 2) (ha : (d.a != 0) = true) :
    Calls Try.prog 26 #[.agg (rsA s), .agg (dgA d)] w (Ret w (.tuple #[.agg (rsA { s with peer := d.a }), .agg (dgmA 1 0 d.a), .bool true, .int .i64 0])) := by
  have hz := zeroDg
  have hz2 := zeroRs
  obtain ⟨b0, b1, b2, b3, b4, hsz, hB⟩ := boxes5 w (.cells (rsA s) 48) (.cells (dgA d) 34) (.cells (rsA zRs) 48) (.cells (dgmA 0 0 0) 34) (.cells (dgmA 0 0 0) 34)
  go_enter Try.func26, Try.ntmps26
  go_upto_region 2 with (fail)
  generalize World.alloc (World.alloc (World.alloc (World.alloc (World.alloc w _) _) _) _) _ = W at *
  have d0 : W.cell? ⟨w.heap.size + 1, 0, none⟩ = some (.int .i64 1) := (cell_of_block b1).trans (by rw [dgA_c0, hk])
  have c0 : W.cell? ⟨w.heap.size, 0, none⟩ = some (.int .i64 2) := (cell_of_block b0).trans (by rw [rsA_c0, h1])
  have d5 : W.cell? ⟨w.heap.size + 1, 5, none⟩ = some (.int .u32 d.a) := (cell_of_block b1).trans (dgA_c5 d)
  have c2 : W.cell? ⟨w.heap.size, 2, none⟩ = some (.int .u32 s.peer) := (cell_of_block b0).trans (rsA_c2 s)
  have f2 : W.frozen? ⟨w.heap.size, 2, none⟩ = false := frozen_of_row W _ 2 _ _ b0
  clear hk h1
  have b0h := Lib.hid b0
  have b1h := Lib.hid b1
  have b2h := Lib.hid b2
  have b3h := Lib.hid b3
  have hBh := Lib.hid hB
  clear b0 b1 b2 b3 b4 hB hz2 hsz
  go_upto_region 8 with (fail)
  have k0 : blk (W.setCell ⟨w.heap.size, 2, none⟩ (.int .u32 d.a)) w.heap.size = some (.cells (rsA { s with peer := d.a }) 48 (0, 0)) := by
    refine blk_of ?_
    rw [blk_set b0h.out 2 _, rsA_s2]
  have k2 : blk (W.setCell ⟨w.heap.size, 2, none⟩ (.int .u32 d.a)) (w.heap.size + 1 + 1) = some (.cells (rsA zRs) 48 (0, 0)) := by
    rw [blk_setCell_ne _ _ _ _ _ (by omega)]; exact blk_of b2h.out
  have k3 : blk (W.setCell ⟨w.heap.size, 2, none⟩ (.int .u32 d.a)) (w.heap.size + 1 + 1 + 1) = some (.cells (dgmA 0 0 0) 34 (0, 0)) := by
    rw [blk_setCell_ne _ _ _ _ _ (by omega)]; exact blk_of b3h.out
  have d5 : (W.setCell ⟨w.heap.size, 2, none⟩ (.int .u32 d.a)).cell? ⟨w.heap.size + 1, 5, none⟩ = some (.int .u32 d.a) := by
    have h : (W.setCell ⟨w.heap.size, 2, none⟩ (.int .u32 d.a)).heap[w.heap.size + 1]? = _ := (heap_setCell_other W ⟨w.heap.size, 2, none⟩ (w.heap.size + 1) _ (by show _ ≠ w.heap.size; omega)).trans b1h.out
    exact (cell_of_block h).trans (dgA_c5 d)
  have hBv : Below w.heap.size w (W.setCell ⟨w.heap.size, 2, none⟩ (.int .u32 d.a)) := hBh.out.setCell (Nat.le_refl _) _
  generalize World.setCell W _ _ = V at *
  clear c0 c2 f2 d0 b0h b1h b2h b3h hBh
  have hBh := Lib.hid hBv
  clear hBv
  have d5r : (V.drew.setRow (w.heap.size + 1 + 1) (rsA { s with peer := d.a })).cell? ⟨w.heap.size + 1, 5, none⟩ = some (.int .u32 d.a) := (World.cell?_of_block ((setRow_other V.drew (w.heap.size + 1 + 1) (w.heap.size + 1) _ (by omega)))).trans d5
  go_region
  all_goals
    go_wp2_with fail
    exact rs_ret4 rfl ((blk_drew_at V _).trans k2) ((blk_drew_at V _).trans k3) (by omega) (below_drewN hBh.out 1) (by omega) rfl rfl rfl rfl rfl
set_option maxRecDepth 100000 in
set_option maxHeartbeats 1000000 in
theorem r_take_run (s : ShS) (d : DgS) (w : World) (hk : d.kind = 1) (h1 : s.st = 2) (ha : d.a = 0) :
    Calls Try.prog 26 #[.agg (rsA s), .agg (dgA d)] w (Ret w (.tuple #[.agg (rsA s), .agg (dgmA 0 0 0), .bool false, .int .i64 280])) := by
  have hz := zeroDg
  have hz2 := zeroRs
  obtain ⟨b0, b1, b2, b3, b4, hsz, hB⟩ := boxes5 w (.cells (rsA s) 48) (.cells (dgA d) 34) (.cells (rsA zRs) 48) (.cells (dgmA 0 0 0) 34) (.cells (dgmA 0 0 0) 34)
  go_enter Try.func26, Try.ntmps26
  go_upto_region 2 with (fail)
  generalize World.alloc (World.alloc (World.alloc (World.alloc (World.alloc w _) _) _) _) _ = W at *
  have d0 : W.cell? ⟨w.heap.size + 1, 0, none⟩ = some (.int .i64 1) := (cell_of_block b1).trans (by rw [dgA_c0, hk])
  have c0 : W.cell? ⟨w.heap.size, 0, none⟩ = some (.int .i64 2) := (cell_of_block b0).trans (by rw [rsA_c0, h1])
  have d5 : W.cell? ⟨w.heap.size + 1, 5, none⟩ = some (.int .u32 0) := (cell_of_block b1).trans (by rw [dgA_c5, ha])
  clear hk h1 ha
  have k0 := blk_of b0
  have k2 := blk_of b2
  have k3 := blk_of b3
  have k4 := blk_of b4
  have hBh := Lib.hid hB
  clear b0 b1 b2 b3 b4 hB hz2 hsz
  go_upto_region 9 with (fail)
  go_quiet (fail)
  go_upto_region 10 with (fail)
  have k0 := (blk_drewN_at W nq w.heap.size).trans k0
  have k2 := (blk_drewN_at W nq (w.heap.size + 1 + 1)).trans k2
  have k3 := (blk_drewN_at W nq (w.heap.size + 1 + 1 + 1)).trans k3
  have k4 := (blk_drewN_at W nq (w.heap.size + 1 + 1 + 1 + 1)).trans k4
  have hBv := Lib.hid (below_drewN hBh.out nq)
  clear d0 c0 d5 hBh
  generalize World.drewN W nq = V at *
  have hBh := hBv
  go_region
  all_goals
    go_wp2_with fail
    exact rs_ret4 rfl ((blk_drew_at V _).trans k2) ((blk_drew_at V _).trans k3) (by omega) (below_drewN hBh.out 1) (by omega) rfl rfl rfl rfl rfl
set_option maxRecDepth 100000 in
set_option maxHeartbeats 1000000 in
theorem r_take_bad (s : ShS) (d : DgS) (w : World) (ok : ShOk s) (hk : d.kind = 1) (h1 : s.st = 1) (ha : d.a = 0) (hb : (d.b != tokZ s.own s.rd) = true) :
    Calls Try.prog 26 #[.agg (rsA s), .agg (dgA d)] w (Ret w (.tuple #[.agg (rsA s), .agg (dgmA 0 0 0), .bool false, .int .i64 280])) := by
  have hz := zeroDg
  have hz2 := zeroRs
  obtain ⟨b0, b1, b2, b3, b4, hsz, hB⟩ := boxes5 w (.cells (rsA s) 48) (.cells (dgA d) 34) (.cells (rsA zRs) 48) (.cells (dgmA 0 0 0) 34) (.cells (dgmA 0 0 0) 34)
  go_enter Try.func26, Try.ntmps26
  go_upto_region 2 with (fail)
  generalize World.alloc (World.alloc (World.alloc (World.alloc (World.alloc w _) _) _) _) _ = W at *
  have d0 : W.cell? ⟨w.heap.size + 1, 0, none⟩ = some (.int .i64 1) := (cell_of_block b1).trans (by rw [dgA_c0, hk])
  have c0 : W.cell? ⟨w.heap.size, 0, none⟩ = some (.int .i64 1) := (cell_of_block b0).trans (by rw [rsA_c0, h1])
  have d5 : W.cell? ⟨w.heap.size + 1, 5, none⟩ = some (.int .u32 0) := (cell_of_block b1).trans (by rw [dgA_c5, ha])
  have d6 : W.cell? ⟨w.heap.size + 1, 6, none⟩ = some (.int .u32 d.b) := (cell_of_block b1).trans (dgA_c6 d)
  have c1 : W.cell? ⟨w.heap.size, 1, none⟩ = some (.int .u32 s.own) := (cell_of_block b0).trans (rsA_c1 s)
  have c3 : W.cell? ⟨w.heap.size, 3, none⟩ = some (.int .i64 s.rd) := (cell_of_block b0).trans (rsA_c3 s)
  clear hk h1 ha
  have k0 := blk_of b0
  have k2 := blk_of b2
  have k3 := blk_of b3
  have k4 := blk_of b4
  have hBh := Lib.hid hB
  clear b0 b1 b2 b3 b4 hB hz2 hsz
  go_upto_region 9 with (fail)
  go_quiet ((go_at_call 8; exact quiet_same2 (r_token s.own s.rd _ ok.o1 ok.o2)))
  go_upto_region 10 with (fail)
  have k0 := (blk_drewN_at W nq w.heap.size).trans k0
  have k2 := (blk_drewN_at W nq (w.heap.size + 1 + 1)).trans k2
  have k3 := (blk_drewN_at W nq (w.heap.size + 1 + 1 + 1)).trans k3
  have k4 := (blk_drewN_at W nq (w.heap.size + 1 + 1 + 1 + 1)).trans k4
  have hBv := Lib.hid (below_drewN hBh.out nq)
  clear d0 c0 d5 d6 c1 c3 hBh
  generalize World.drewN W nq = V at *
  have hBh := hBv
  go_region
  all_goals
    go_wp2_with fail
    exact rs_ret4 rfl ((blk_drew_at V _).trans k2) ((blk_drew_at V _).trans k3) (by omega) (below_drewN hBh.out 1) (by omega) rfl rfl rfl rfl rfl
set_option maxRecDepth 100000 in
set_option maxHeartbeats 1000000 in
theorem r_take_next (s : ShS) (d : DgS) (w : World) (ok : ShOk s) (hk : d.kind = 1) (h1 : s.st = 1) (ha : d.a = 0) (hb : d.b = tokZ s.own s.rd) (hr : s.rd + 1 < 4) :
    Calls Try.prog 26 #[.agg (rsA s), .agg (dgA d)] w (Ret w (.tuple #[.agg (rsA { s with rd := s.rd + 1, k := s.k + 1, q := 0 }), .agg (dgmA 1 (tokZ s.own (s.rd + 1)) 0), .bool true, .int .i64 0])) := by
  have hz := zeroDg
  have hz2 := zeroRs
  obtain ⟨b0, b1, b2, b3, b4, hsz, hB⟩ := boxes5 w (.cells (rsA s) 48) (.cells (dgA d) 34) (.cells (rsA zRs) 48) (.cells (dgmA 0 0 0) 34) (.cells (dgmA 0 0 0) 34)
  have r1 := ok.r1
  have r2 := ok.r2
  go_enter Try.func26, Try.ntmps26
  go_upto_region 2 with (fail)
  generalize World.alloc (World.alloc (World.alloc (World.alloc (World.alloc w _) _) _) _) _ = W at *
  have d0 : W.cell? ⟨w.heap.size + 1, 0, none⟩ = some (.int .i64 1) := (cell_of_block b1).trans (by rw [dgA_c0, hk])
  have c0 : W.cell? ⟨w.heap.size, 0, none⟩ = some (.int .i64 1) := (cell_of_block b0).trans (by rw [rsA_c0, h1])
  have d5 : W.cell? ⟨w.heap.size + 1, 5, none⟩ = some (.int .u32 0) := (cell_of_block b1).trans (by rw [dgA_c5, ha])
  have d6 : W.cell? ⟨w.heap.size + 1, 6, none⟩ = some (.int .u32 (tokZ s.own s.rd)) := (cell_of_block b1).trans (by rw [dgA_c6, hb])
  have c1 : W.cell? ⟨w.heap.size, 1, none⟩ = some (.int .u32 s.own) := (cell_of_block b0).trans (rsA_c1 s)
  have c3 : W.cell? ⟨w.heap.size, 3, none⟩ = some (.int .i64 s.rd) := (cell_of_block b0).trans (rsA_c3 s)
  have htt : (tokZ s.own s.rd != tokZ s.own s.rd) = false := bne_self_eq_false _
  have b0h := Lib.hid b0
  have b2h := Lib.hid b2
  have b3h := Lib.hid b3
  have b4h := Lib.hid b4
  have hBh := Lib.hid hB
  have hsW : w.heap.size + 5 ≤ W.heap.size := by omega
  have hbh := Lib.hid hb
  have hsth := Lib.hid h1
  clear b0 b1 b2 b3 b4 hB hsz hk h1 ha hb
  go_upto_region 9 with (fail)
  go_quiet ((go_at_call 8; exact quiet_same2 (r_token s.own s.rd _ ok.o1 ok.o2)))
  go_upto_region 11 with (fail)
  have b0 : (W.drewN nq).heap[w.heap.size]? = _ := b0h.out
  have b2 : (W.drewN nq).heap[w.heap.size + 1 + 1]? = _ := b2h.out
  have b3 : (W.drewN nq).heap[w.heap.size + 1 + 1 + 1]? = _ := b3h.out
  have b4 : (W.drewN nq).heap[w.heap.size + 1 + 1 + 1 + 1]? = _ := b4h.out
  have hB : Below w.heap.size w (W.drewN nq) := below_drewN hBh.out nq
  have hsV : w.heap.size + 5 ≤ (W.drewN nq).heap.size := hsW
  clear d0 c0 d5 d6 c1 c3 htt b0h b2h b3h b4h hBh hsW
  generalize World.drewN W nq = W at *
  have c3 : W.cell? ⟨w.heap.size, 3, none⟩ = some (.int .i64 s.rd) := (cell_of_block b0).trans (rsA_c3 s)
  have f3 : W.frozen? ⟨w.heap.size, 3, none⟩ = false := frozen_of_row W _ 3 _ _ b0
  have b0h := Lib.hid b0
  have b2h := Lib.hid b2
  have b3h := Lib.hid b3
  have b4h := Lib.hid b4
  have hBh := Lib.hid hB
  clear b0 b2 b3 b4 hB
  go_upto_region 12 with (fail)
  have h0 : (W.setCell ⟨w.heap.size, 3, none⟩ (.int .i64 (s.rd + 1))).heap[w.heap.size]? = some (.cells (rsA { s with rd := s.rd + 1 }) 48 (0, 0)) := by
    rw [blk_set b0h.out 3 _, rsA_s3]
  have k2 : blk (W.setCell ⟨w.heap.size, 3, none⟩ (.int .i64 (s.rd + 1))) (w.heap.size + 1 + 1) = some (.cells (rsA zRs) 48 (0, 0)) := by
    rw [blk_setCell_ne _ _ _ _ _ (by omega)]; exact blk_of b2h.out
  have k3 : blk (W.setCell ⟨w.heap.size, 3, none⟩ (.int .i64 (s.rd + 1))) (w.heap.size + 1 + 1 + 1) = some (.cells (dgmA 0 0 0) 34 (0, 0)) := by
    rw [blk_setCell_ne _ _ _ _ _ (by omega)]; exact blk_of b3h.out
  have k4 : blk (W.setCell ⟨w.heap.size, 3, none⟩ (.int .i64 (s.rd + 1))) (w.heap.size + 1 + 1 + 1 + 1) = some (.cells (dgmA 0 0 0) 34 (0, 0)) := by
    rw [blk_setCell_ne _ _ _ _ _ (by omega)]; exact blk_of b4h.out
  have hBv : Below w.heap.size w (W.setCell ⟨w.heap.size, 3, none⟩ (.int .i64 (s.rd + 1))) := hBh.out.setCell (Nat.le_refl _) _
  have hsV2 : w.heap.size + 5 ≤ (W.setCell ⟨w.heap.size, 3, none⟩ (.int .i64 (s.rd + 1))).heap.size := by simpa [World.setCell] using hsV
  clear c3 f3 b0h b2h b3h b4h hBh hsV
  generalize World.setCell W _ _ = V at *
  have c3 : V.cell? ⟨w.heap.size, 3, none⟩ = some (.int .i64 (s.rd + 1)) := (cell_of_block h0).trans (rsA_c3 _)
  have hBh := Lib.hid hBv
  clear hBv
  have k0 := blk_of h0
  have k2h := Lib.hid k2
  have k3h := Lib.hid k3
  clear h0 k2 k3 k4
  go_wp2_with fail
  refine (r_ask { s with rd := s.rd + 1 } V ⟨ok.o1, ok.o2, by simp; omega, by simp; omega, ok.q1, ok.q2, ok.k1, ok.k2⟩).mono ?_
  rintro e X ⟨rfl, hX⟩
  have k2 := (blk_below hX (by omega)).trans k2h.out
  have k3 := (blk_below hX (by omega)).trans k3h.out
  have hBX : Hid (Below w.heap.size w X) := hide (hBh.out.trans (hX.mono (by omega)))
  have hsX : w.heap.size + 5 ≤ X.heap.size := by have := hX.size; omega
  clear hX k0 k2h k3h hBh hsV2 c3
  go_upto_region 16 with (fail)
  obtain ⟨q1, q2, q3, q4, q5⟩ := box_two X (rsA zRs) (dgmA 0 0 0) (rsA { s with rd := s.rd + 1, k := s.k + 1, q := 0 }) (dgmA 1 (tokZ s.own (s.rd + 1)) 0) 48 34
  have k2 := (q3 _ (by omega)).trans k2
  have k3 := (q3 _ (by omega)).trans k3
  have hBh := Lib.hid (hBX.out.trans (q5.mono (by omega)))
  clear q3 q5 hBX
  generalize World.setRow (World.setRow (World.alloc (World.alloc X _) _) _ _) _ _ = Y at *
  generalize X.heap.size = x at *
  go_region
  all_goals
    go_wp2_with fail
    exact rs_ret4 rfl ((blk_drew_at Y _).trans k2) ((blk_drew_at Y _).trans k3) (by omega) (below_drewN hBh.out 1) (by omega) rfl rfl rfl rfl rfl
set_option maxRecDepth 100000 in
set_option maxHeartbeats 1000000 in
theorem r_take_last (s : ShS) (d : DgS) (w : World) (ok : ShOk s) (hk : d.kind = 1) (h1 : s.st = 1) (ha : d.a = 0) (hb : d.b = tokZ s.own s.rd) (hr : 4 ≤ s.rd + 1) :
    Calls Try.prog 26 #[.agg (rsA s), .agg (dgA d)] w (Ret w (.tuple #[.agg (rsA { s with rd := s.rd + 1, st := 2 }), .agg (dgmA 0 0 0), .bool false, .int .i64 0])) := by
  have hz := zeroDg
  have hz2 := zeroRs
  obtain ⟨b0, b1, b2, b3, b4, hsz, hB⟩ := boxes5 w (.cells (rsA s) 48) (.cells (dgA d) 34) (.cells (rsA zRs) 48) (.cells (dgmA 0 0 0) 34) (.cells (dgmA 0 0 0) 34)
  have r1 := ok.r1
  have r2 := ok.r2
  go_enter Try.func26, Try.ntmps26
  go_upto_region 2 with (fail)
  generalize World.alloc (World.alloc (World.alloc (World.alloc (World.alloc w _) _) _) _) _ = W at *
  have d0 : W.cell? ⟨w.heap.size + 1, 0, none⟩ = some (.int .i64 1) := (cell_of_block b1).trans (by rw [dgA_c0, hk])
  have c0 : W.cell? ⟨w.heap.size, 0, none⟩ = some (.int .i64 1) := (cell_of_block b0).trans (by rw [rsA_c0, h1])
  have d5 : W.cell? ⟨w.heap.size + 1, 5, none⟩ = some (.int .u32 0) := (cell_of_block b1).trans (by rw [dgA_c5, ha])
  have d6 : W.cell? ⟨w.heap.size + 1, 6, none⟩ = some (.int .u32 (tokZ s.own s.rd)) := (cell_of_block b1).trans (by rw [dgA_c6, hb])
  have c1 : W.cell? ⟨w.heap.size, 1, none⟩ = some (.int .u32 s.own) := (cell_of_block b0).trans (rsA_c1 s)
  have c3 : W.cell? ⟨w.heap.size, 3, none⟩ = some (.int .i64 s.rd) := (cell_of_block b0).trans (rsA_c3 s)
  have htt : (tokZ s.own s.rd != tokZ s.own s.rd) = false := bne_self_eq_false _
  have b0h := Lib.hid b0
  have b2h := Lib.hid b2
  have b3h := Lib.hid b3
  have b4h := Lib.hid b4
  have hBh := Lib.hid hB
  have hsW : w.heap.size + 5 ≤ W.heap.size := by omega
  have hbh := Lib.hid hb
  have hsth := Lib.hid h1
  clear b0 b1 b2 b3 b4 hB hsz hk h1 ha hb
  go_upto_region 9 with (fail)
  go_quiet ((go_at_call 8; exact quiet_same2 (r_token s.own s.rd _ ok.o1 ok.o2)))
  go_upto_region 11 with (fail)
  have b0 : (W.drewN nq).heap[w.heap.size]? = _ := b0h.out
  have b2 : (W.drewN nq).heap[w.heap.size + 1 + 1]? = _ := b2h.out
  have b3 : (W.drewN nq).heap[w.heap.size + 1 + 1 + 1]? = _ := b3h.out
  have b4 : (W.drewN nq).heap[w.heap.size + 1 + 1 + 1 + 1]? = _ := b4h.out
  have hB : Below w.heap.size w (W.drewN nq) := below_drewN hBh.out nq
  have hsV : w.heap.size + 5 ≤ (W.drewN nq).heap.size := hsW
  clear d0 c0 d5 d6 c1 c3 htt b0h b2h b3h b4h hBh hsW
  generalize World.drewN W nq = W at *
  have c3 : W.cell? ⟨w.heap.size, 3, none⟩ = some (.int .i64 s.rd) := (cell_of_block b0).trans (rsA_c3 s)
  have f3 : W.frozen? ⟨w.heap.size, 3, none⟩ = false := frozen_of_row W _ 3 _ _ b0
  have b0h := Lib.hid b0
  have b2h := Lib.hid b2
  have b3h := Lib.hid b3
  have b4h := Lib.hid b4
  have hBh := Lib.hid hB
  clear b0 b2 b3 b4 hB
  go_upto_region 12 with (fail)
  have h0 : (W.setCell ⟨w.heap.size, 3, none⟩ (.int .i64 (s.rd + 1))).heap[w.heap.size]? = some (.cells (rsA { s with rd := s.rd + 1 }) 48 (0, 0)) := by
    rw [blk_set b0h.out 3 _, rsA_s3]
  have k2 : blk (W.setCell ⟨w.heap.size, 3, none⟩ (.int .i64 (s.rd + 1))) (w.heap.size + 1 + 1) = some (.cells (rsA zRs) 48 (0, 0)) := by
    rw [blk_setCell_ne _ _ _ _ _ (by omega)]; exact blk_of b2h.out
  have k3 : blk (W.setCell ⟨w.heap.size, 3, none⟩ (.int .i64 (s.rd + 1))) (w.heap.size + 1 + 1 + 1) = some (.cells (dgmA 0 0 0) 34 (0, 0)) := by
    rw [blk_setCell_ne _ _ _ _ _ (by omega)]; exact blk_of b3h.out
  have k4 : blk (W.setCell ⟨w.heap.size, 3, none⟩ (.int .i64 (s.rd + 1))) (w.heap.size + 1 + 1 + 1 + 1) = some (.cells (dgmA 0 0 0) 34 (0, 0)) := by
    rw [blk_setCell_ne _ _ _ _ _ (by omega)]; exact blk_of b4h.out
  have hBv : Below w.heap.size w (W.setCell ⟨w.heap.size, 3, none⟩ (.int .i64 (s.rd + 1))) := hBh.out.setCell (Nat.le_refl _) _
  have hsV2 : w.heap.size + 5 ≤ (W.setCell ⟨w.heap.size, 3, none⟩ (.int .i64 (s.rd + 1))).heap.size := by simpa [World.setCell] using hsV
  clear c3 f3 b0h b2h b3h b4h hBh hsV
  generalize World.setCell W _ _ = V at *
  have c3 : V.cell? ⟨w.heap.size, 3, none⟩ = some (.int .i64 (s.rd + 1)) := (cell_of_block h0).trans (rsA_c3 _)
  have hBh := Lib.hid hBv
  clear hBv
  have c0 : V.cell? ⟨w.heap.size, 0, none⟩ = some (.int .i64 1) := (cell_of_block h0).trans (by rw [rsA_c0]; rw [hsth.out])
  have f0 : V.frozen? ⟨w.heap.size, 0, none⟩ = false := frozen_of_row V _ 0 _ _ h0
  have h0h := Lib.hid h0
  have k2h := Lib.hid k2
  have k3h := Lib.hid k3
  have k4h := Lib.hid k4
  clear h0 k2 k3 k4
  go_upto_region 14 with (fail)
  have k0 : blk (V.setCell ⟨w.heap.size, 0, none⟩ (.int .i64 2)) w.heap.size = some (.cells (rsA { s with rd := s.rd + 1, st := 2 }) 48 (0, 0)) := by
    refine blk_of ?_
    rw [blk_set h0h.out 0 _, rsA_s0]
  have k2 : blk (V.setCell ⟨w.heap.size, 0, none⟩ (.int .i64 2)) (w.heap.size + 1 + 1) = some (.cells (rsA zRs) 48 (0, 0)) := by
    rw [blk_setCell_ne _ _ _ _ _ (by omega)]; exact k2h.out
  have k3 : blk (V.setCell ⟨w.heap.size, 0, none⟩ (.int .i64 2)) (w.heap.size + 1 + 1 + 1) = some (.cells (dgmA 0 0 0) 34 (0, 0)) := by
    rw [blk_setCell_ne _ _ _ _ _ (by omega)]; exact k3h.out
  have k4 : blk (V.setCell ⟨w.heap.size, 0, none⟩ (.int .i64 2)) (w.heap.size + 1 + 1 + 1 + 1) = some (.cells (dgmA 0 0 0) 34 (0, 0)) := by
    rw [blk_setCell_ne _ _ _ _ _ (by omega)]; exact k4h.out
  have hBv : Below w.heap.size w (V.setCell ⟨w.heap.size, 0, none⟩ (.int .i64 2)) := hBh.out.setCell (Nat.le_refl _) _
  clear c0 f0 c3 h0h k2h k3h k4h hBh
  generalize World.setCell V _ _ = Y at *
  have hBh := Lib.hid hBv
  clear hBv
  go_region
  all_goals
    go_wp2_with fail
    exact rs_ret4 rfl ((blk_drew_at Y _).trans k2) ((blk_drew_at Y _).trans k3) (by omega) (below_drewN hBh.out 1) (by omega) rfl rfl rfl rfl rfl
set_option maxRecDepth 100000 in
theorem r_take (s : ShS) (d : DgS) (w : World) (ok : ShOk s) :
    Calls Try.prog 26 #[.agg (rsA s), .agg (dgA d)] w (Ret w (.tuple #[.agg (rsA (shTake s d.kind d.a d.b).1), dV (shTake s d.kind d.a d.b).2.1, .bool (shTake s d.kind d.a d.b).2.2.1, .int .i64 (shTake s d.kind d.a d.b).2.2.2])) := by
  unfold shTake
  by_cases hk : d.kind = 1
  · rw [if_neg (by simp [hk])]
    by_cases h2 : s.st = 2
    · rw [if_neg (by simp [h2])]
      by_cases ha : d.a = 0
      · rw [if_neg (by simp [ha]), if_pos (.inl h2)]
        exact r_take_run s d w hk h2 ha
      · rw [if_pos ha]
        exact r_take_ask2 s d w hk h2 (by simpa using ha)
    · by_cases h1 : s.st = 1
      · rw [if_neg (by simp [h1])]
        by_cases ha : d.a = 0
        · rw [if_neg (by simp [ha])]
          by_cases hb : d.b = tokZ s.own s.rd
          · rw [if_neg (by intro h; rcases h with h | h; exact h2 h; exact h hb)]
            by_cases hr : s.rd + 1 < 4
            · rw [if_pos hr]
              exact r_take_next s d w ok hk h1 ha hb hr
            · rw [if_neg hr]
              exact r_take_last s d w ok hk h1 ha hb (by omega)
          · rw [if_pos (.inr hb)]
            exact r_take_bad s d w ok hk h1 ha (by simpa using hb)
        · rw [if_pos ha]
          exact r_take_ask1 s d w hk h1 (by simpa using ha)
      · rw [if_pos ⟨h1, h2⟩]
        exact r_take_state s d w hk (by simpa using h1) (by simpa using h2)
  · rw [if_pos hk]
    exact r_take_kind s d w (by simpa using hk)
end Go.Proofs.Ytdpngimcmohmaaa
