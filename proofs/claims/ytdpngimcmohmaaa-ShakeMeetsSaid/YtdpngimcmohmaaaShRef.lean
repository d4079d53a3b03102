/- The document's 27: ask, Start, Tick, Take. Conditions: the state's numbers are of their kinds and not too great. -/
import Derived.Test.YtdpngimcmohmaaaShake5
import Derived.Test.YtdpngimcmohmaaaRead
namespace Go.Proofs.Ytdpngimcmohmaaa
open Go.RowKit
/-- the document's state -/
def rsA (s : ShS) : Array Value := #[.int .i64 s.st, .int .u32 s.own, .int .u32 s.peer, .int .i64 s.rd, .int .i64 s.q, .int .i64 s.k]
set_option maxRecDepth 100000 in
theorem rsA_c0 (s : ShS) : (rsA s)[0]? = some (.int .i64 s.st) := rfl
set_option maxRecDepth 100000 in
theorem rsA_c1 (s : ShS) : (rsA s)[1]? = some (.int .u32 s.own) := rfl
set_option maxRecDepth 100000 in
theorem rsA_c2 (s : ShS) : (rsA s)[2]? = some (.int .u32 s.peer) := rfl
set_option maxRecDepth 100000 in
theorem rsA_c3 (s : ShS) : (rsA s)[3]? = some (.int .i64 s.rd) := rfl
set_option maxRecDepth 100000 in
theorem rsA_c4 (s : ShS) : (rsA s)[4]? = some (.int .i64 s.q) := rfl
set_option maxRecDepth 100000 in
theorem rsA_c5 (s : ShS) : (rsA s)[5]? = some (.int .i64 s.k) := rfl
set_option maxRecDepth 100000 in
theorem rsA_s0 (s : ShS) (x : Int) : (rsA s).setIfInBounds 0 (.int .i64 x) = rsA { s with st := x } := rfl
set_option maxRecDepth 100000 in
theorem rsA_s2 (s : ShS) (x : Int) : (rsA s).setIfInBounds 2 (.int .u32 x) = rsA { s with peer := x } := rfl
set_option maxRecDepth 100000 in
theorem rsA_s3 (s : ShS) (x : Int) : (rsA s).setIfInBounds 3 (.int .i64 x) = rsA { s with rd := x } := rfl
set_option maxRecDepth 100000 in
theorem rsA_s4 (s : ShS) (x : Int) : (rsA s).setIfInBounds 4 (.int .i64 x) = rsA { s with q := x } := rfl
set_option maxRecDepth 100000 in
theorem rsA_s5 (s : ShS) (x : Int) : (rsA s).setIfInBounds 5 (.int .i64 x) = rsA { s with k := x } := rfl
set_option maxRecDepth 100000 in
theorem rs_size (s : ShS) : (rsA s).size = 6 := by unfold rsA; rfl
set_option maxRecDepth 100000 in
theorem rs_plain (s : ShS) : Plain (rsA s) := by unfold Plain rsA; simp [Value.oneCell']
set_option maxRecDepth 100000 in
theorem dg_size (k a b : Int) : (dgmA k a b).size = 11 := by unfold dgmA; rfl
def dBuild (parts : Array (Nat × Value)) : Sem Value := Instr.build 34 parts
set_option maxRecDepth 100000 in
theorem dBuild_of (parts : Array (Nat × Value)) : Instr.build 34 parts = dBuild parts := by unfold dBuild; rfl
set_option maxRecDepth 100000 in
theorem dBuild_0 (w : World) : (dBuild #[]).run Try.prog w = .ok (.agg (dgmA 0 0 0)) w := by
  have hz := zeroDgm
  unfold dBuild dgmA
  go_simp
set_option maxRecDepth 100000 in
theorem dBuild_5 (a : Int) (w : World) : (dBuild #[(0, .int .i64 1), (5, .int .u32 a)]).run Try.prog w = .ok (.agg (dgmA 1 a 0)) w := by
  have hz := zeroDgm
  unfold dBuild dgmA
  go_simp
set_option maxRecDepth 100000 in
theorem dBuild_6 (b : Int) (w : World) : (dBuild #[(0, .int .i64 1), (6, .int .u32 b)]).run Try.prog w = .ok (.agg (dgmA 1 0 b)) w := by
  have hz := zeroDgm
  unfold dBuild dgmA
  go_simp
set_option maxRecDepth 100000 in
theorem dg_plain (k a b : Int) : Plain (dgmA k a b) := dgmA_one k a b
set_option maxRecDepth 100000 in
theorem rs_info : (Try.prog.info? 48).map (·.size) = some 6 := by kernel_rfl
set_option maxRecDepth 100000 in
theorem rs_infoA (s : ShS) : (Try.prog.info? 48).map (·.size) = some (rsA s).size := rs_info
def zRs : ShS := ⟨0, 0, 0, 0, 0, 0⟩
set_option maxRecDepth 100000 in
theorem zeroRs (w : World) : (zeroValue 48).run Try.prog w = .ok (.agg (rsA zRs)) w := by unfold rsA zRs; kernel_rfl
set_option maxRecDepth 100000 in
theorem zeroDg (w : World) : (zeroValue 34).run Try.prog w = .ok (.agg (dgmA 0 0 0)) w := zeroDgm w
set_option maxRecDepth 100000 in
theorem ld_rs0 (v : Value) : Instr.loadAt 48 v = wLoad 48 v := rfl
set_option maxRecDepth 100000 in
theorem ld_rs (w : World) (b : Nat) : (wLoad 48 (.pointer (some ⟨b, 0, none⟩))).run Try.prog w = loadAns 6 w (blk w b) (wLoadRes Try.prog 48 b w) := run_wLoad Try.underlying48 rfl rs_info w b
set_option maxRecDepth 100000 in
theorem sto_rs0 (p x : Value) : Instr.storeAt 48 p x = wStore 48 p x := rfl
set_option maxRecDepth 100000 in
theorem sto_rs (w : World) (b : Nat) (C : Array Value) : (wStore 48 (.pointer (some ⟨b, 0, none⟩)) (.agg C)).run Try.prog w = storeAns 6 w b C (blk w b) (wStoreRes Try.prog 48 b C w) := run_wStore rs_info w b C
set_option maxRecDepth 100000 in
theorem ld_dg0 (v : Value) : Instr.loadAt 34 v = wLoad 34 v := rfl
set_option maxRecDepth 100000 in
theorem ld_dg (w : World) (b : Nat) : (wLoad 34 (.pointer (some ⟨b, 0, none⟩))).run Try.prog w = loadAns 11 w (blk w b) (wLoadRes Try.prog 34 b w) := run_wLoad Try.underlying34 rfl dgm_info11 w b
set_option maxRecDepth 100000 in
theorem sto_dg0 (p x : Value) : Instr.storeAt 34 p x = wStore 34 p x := rfl
set_option maxRecDepth 100000 in
theorem sto_dg (w : World) (b : Nat) (C : Array Value) : (wStore 34 (.pointer (some ⟨b, 0, none⟩)) (.agg C)).run Try.prog w = storeAns 11 w b C (blk w b) (wStoreRes Try.prog 34 b C w) := run_wStore dgm_info11 w b C
set_option maxRecDepth 100000 in
theorem dgA_size (d : DgS) : (dgA d).size = 11 := by unfold dgA; rfl
set_option maxRecDepth 100000 in
theorem results_row2 {P : Program} {fn : Func} {p q : Tmp} {ty ty2 : TypeId} (h : fn.results = #[.cell p ty, .cell q ty2]) (tmps : Array Value) (w : World) (g : Nat) (t : TypeId) (cs : Array Value) (fr : Nat × Nat) (d : TypeDesc) (g2 : Nat) (t2 : TypeId) (cs2 : Array Value) (fr2 : Nat × Nat) (d2 : TypeDesc)
    (hp : tmps.getD p undef = .pointer (some ⟨g, 0, none⟩)) (hq : tmps.getD q undef = .pointer (some ⟨g2, 0, none⟩)) (hg : w.heap[g]? = some (.cells cs t fr)) (hg2 : w.heap[g2]? = some (.cells cs2 t2 fr2))
    (hu : P.underlying ty = some d) (hd : (match d with | .struct _ | .array _ _ => true | _ => false) = true) (hi : (P.info? ty).map (·.size) = some cs.size)
    (hu2 : P.underlying ty2 = some d2) (hd2 : (match d2 with | .struct _ | .array _ _ => true | _ => false) = true) (hi2 : (P.info? ty2).map (·.size) = some cs2.size) :
    (results fn tmps).run P w = .ok (.tuple #[.agg cs, .agg cs2]) w := by
  have hp' : tmps[p]?.getD undef = .pointer (some ⟨g, 0, none⟩) := by simpa using hp
  have hq' : tmps[q]?.getD undef = .pointer (some ⟨g2, 0, none⟩) := by simpa using hq
  simp [results, h, hp', hq', asAddr, Sem.run_bind, run_loadVar_row w g t ty cs fr d hg hu hd hi, run_loadVar_row w g2 t2 ty2 cs2 fr2 d2 hg2 hu2 hd2 hi2]
set_option maxRecDepth 100000 in
theorem results_row2_tmp2 {P : Program} {fn : Func} {p q u v : Tmp} {ty ty2 : TypeId} (h : fn.results = #[.cell p ty, .cell q ty2, .tmp u, .tmp v]) (tmps : Array Value) (w : World) (g : Nat) (t : TypeId) (cs : Array Value) (fr : Nat × Nat) (d : TypeDesc) (g2 : Nat) (t2 : TypeId) (cs2 : Array Value) (fr2 : Nat × Nat) (d2 : TypeDesc) (x y : Value)
    (hp : tmps.getD p undef = .pointer (some ⟨g, 0, none⟩)) (hq : tmps.getD q undef = .pointer (some ⟨g2, 0, none⟩)) (hx : tmps.getD u undef = x) (hy : tmps.getD v undef = y) (hg : w.heap[g]? = some (.cells cs t fr)) (hg2 : w.heap[g2]? = some (.cells cs2 t2 fr2))
    (hu : P.underlying ty = some d) (hd : (match d with | .struct _ | .array _ _ => true | _ => false) = true) (hi : (P.info? ty).map (·.size) = some cs.size)
    (hu2 : P.underlying ty2 = some d2) (hd2 : (match d2 with | .struct _ | .array _ _ => true | _ => false) = true) (hi2 : (P.info? ty2).map (·.size) = some cs2.size) :
    (results fn tmps).run P w = .ok (.tuple #[.agg cs, .agg cs2, x, y]) w := by
  have hp' : tmps[p]?.getD undef = .pointer (some ⟨g, 0, none⟩) := by simpa using hp
  have hq' : tmps[q]?.getD undef = .pointer (some ⟨g2, 0, none⟩) := by simpa using hq
  have hx' : tmps[u]?.getD undef = x := by simpa using hx
  have hy' : tmps[v]?.getD undef = y := by simpa using hy
  simp [results, h, hp', hq', hx', hy', asAddr, Sem.run_bind, run_loadVar_row w g t ty cs fr d hg hu hd hi, run_loadVar_row w g2 t2 ty2 cs2 fr2 d2 hg2 hu2 hd2 hi2]
set_option maxRecDepth 100000 in
theorem three_boxes (w : World) (A B C : Obj) :
    (((w.alloc A).alloc B).alloc C).heap[w.heap.size]? = some A ∧ (((w.alloc A).alloc B).alloc C).heap[w.heap.size + 1]? = some B ∧ (((w.alloc A).alloc B).alloc C).heap[w.heap.size + 1 + 1]? = some C ∧
    (((w.alloc A).alloc B).alloc C).heap.size = w.heap.size + 3 ∧ Below w.heap.size w (((w.alloc A).alloc B).alloc C) := by
  have s1 : ∀ (u : World) (o : Obj), (u.alloc o).heap.size = u.heap.size + 1 := fun u o => by show (u.heap.push _).size = _; rw [Array.size_push]
  refine ⟨blk_alloc (blk_alloc (last_block0 _ _ _ rfl) _) _, blk_alloc (last_block0 _ _ _ (s1 _ _).symm) _, last_block0 _ _ _ (by rw [s1, s1]), by rw [s1, s1, s1], ?_⟩
  exact (((Below.refl _ _).alloc (Nat.le_refl _) _).alloc (by rw [s1]; omega) _).alloc (by rw [s1, s1]; omega) _
set_option maxRecDepth 100000 in
theorem two_rows {V : World} {g1 g2 : Nat} {C1 C2 : Array Value} {T1 T2 : TypeId} (h1 : blk V g1 = some (.cells C1 T1 (0, 0))) (h2 : blk V g2 = some (.cells C2 T2 (0, 0))) (hne : g1 ≠ g2) (A B : Array Value) :
    ((V.setRow g1 A).setRow g2 B).heap[g1]? = some (.cells A T1 (0, 0)) ∧ ((V.setRow g1 A).setRow g2 B).heap[g2]? = some (.cells B T2 (0, 0)) :=
  ⟨(setRow_other _ _ _ _ hne).trans (setRow_heap _ _ _ _ _ _ (blk_heap h1)), setRow_heap _ _ _ _ _ _ ((setRow_other _ _ _ _ (Ne.symm hne)).trans (blk_heap h2))⟩
set_option maxRecDepth 100000 in
/-- two variables that are made and set at once -/
theorem box_two (X : World) (A B C D : Array Value) (T1 T2 : TypeId) :
    let Y := (((X.alloc (.cells A T1)).alloc (.cells B T2)).setRow X.heap.size C).setRow (X.heap.size + 1) D
    blk Y X.heap.size = some (.cells C T1 (0, 0)) ∧ blk Y (X.heap.size + 1) = some (.cells D T2 (0, 0)) ∧ (∀ g, g < X.heap.size → blk Y g = blk X g) ∧ Y.heap.size = X.heap.size + 2 ∧ Below X.heap.size X Y := by
  intro Y
  have s1 : ∀ (u : World) (o : Obj), (u.alloc o).heap.size = u.heap.size + 1 := fun u o => by show (u.heap.push _).size = _; rw [Array.size_push]
  have h1 : ((X.alloc (.cells A T1)).alloc (.cells B T2)).heap[X.heap.size]? = some (.cells A T1 (0, 0)) := blk_alloc (last_block0 _ _ _ rfl) _
  have h2 : ((X.alloc (.cells A T1)).alloc (.cells B T2)).heap[X.heap.size + 1]? = some (.cells B T2 (0, 0)) := last_block0 _ _ _ (s1 _ _).symm
  obtain ⟨k1, k2⟩ := two_rows (blk_of h1) (blk_of h2) (by omega) C D
  refine ⟨k1, k2, fun g hg => ?_, by show ((World.setRow _ _ _).setRow _ _).heap.size = _; rw [size_setRow, size_setRow, s1, s1], ?_⟩
  · show ((World.setRow _ _ _).setRow _ _).heap[g]? = X.heap[g]?
    rw [setRow_other _ _ _ _ (by omega), setRow_other _ _ _ _ (by omega), Below.heap_alloc _ _ _ (by rw [s1]; omega), Below.heap_alloc _ _ _ hg]
  · exact below_setRow (below_setRow (((Below.refl _ _).alloc (Nat.le_refl _) _).alloc (by rw [s1]; omega) _) (Nat.le_refl _) _) (by omega) _
attribute [local irreducible] tokZ rsA dgmA dgA dBuild blk wLoad wLoadRes loadAns wStore wStoreRes storeAns Plain
attribute [local go_sem ↓] dBuild_of ld_rs0 sto_rs0 ld_dg0 sto_dg0
attribute [local go_sem] dBuild_0 dBuild_5 dBuild_6 ld_rs sto_rs ld_dg sto_dg loadAns_some storeAns_some rs_size rs_plain dg_size dg_plain dgA_size blk_alloc_if blk_setRow_if blk_drew_at blk_drewN_at rowPut_some
set_option maxRecDepth 100000 in
set_option maxHeartbeats 1000000 in
theorem r_ask (s : ShS) (w : World) (ok : ShOk s) :
    Calls Try.prog 24 #[.agg (rsA s)] w (Ret w (.tuple #[.agg (rsA { s with k := s.k + 1, q := 0 }), .agg (dgmA 1 (tokZ s.own s.rd) 0)])) := by
  have hz := zeroDg
  have hz2 := zeroRs
  obtain ⟨o1, o2, r1, r2, q1, q2, k1, k2⟩ := ok
  obtain ⟨b0, b1, b2, hsz, hB⟩ := three_boxes w (.cells (rsA s) 48) (.cells (rsA zRs) 48) (.cells (dgmA 0 0 0) 34)
  go_enter Try.func24, Try.ntmps24
  go_upto_region 1 with (fail)
  generalize World.alloc (World.alloc (World.alloc w _) _) _ = W at *
  have c5 : W.cell? ⟨w.heap.size, 5, none⟩ = some (.int .i64 s.k) := (cell_of_block b0).trans (rsA_c5 s)
  have c4 : W.cell? ⟨w.heap.size, 4, none⟩ = some (.int .i64 s.q) := (cell_of_block b0).trans (rsA_c4 s)
  have c1 : W.cell? ⟨w.heap.size, 1, none⟩ = some (.int .u32 s.own) := (cell_of_block b0).trans (rsA_c1 s)
  have c3 : W.cell? ⟨w.heap.size, 3, none⟩ = some (.int .i64 s.rd) := (cell_of_block b0).trans (rsA_c3 s)
  have f5 : W.frozen? ⟨w.heap.size, 5, none⟩ = false := frozen_of_row W _ 5 _ _ b0
  have f4 : W.frozen? ⟨w.heap.size, 4, none⟩ = false := frozen_of_row W _ 4 _ _ b0
  have b0h := Lib.hid b0
  have b1h := Lib.hid b1
  have b2h := Lib.hid b2
  have hBh := Lib.hid hB
  have hs3 : w.heap.size + 3 ≤ W.heap.size := by omega
  clear b0 b1 b2 hB hsz hz2
  go_upto_region 3 with (fail)
  have k0 : blk ((W.setCell ⟨w.heap.size, 5, none⟩ (.int .i64 (s.k + 1))).setCell ⟨w.heap.size, 4, none⟩ (.int .i64 0)) w.heap.size = some (.cells (rsA { s with k := s.k + 1, q := 0 }) 48 (0, 0)) := by
    refine blk_of ?_
    rw [blk_set (blk_set b0h.out 5 _) 4 _, rsA_s5, rsA_s4]
  have k1 : blk ((W.setCell ⟨w.heap.size, 5, none⟩ (.int .i64 (s.k + 1))).setCell ⟨w.heap.size, 4, none⟩ (.int .i64 0)) (w.heap.size + 1) = some (.cells (rsA zRs) 48 (0, 0)) := by
    rw [blk_setCell_ne _ _ _ _ _ (by omega), blk_setCell_ne _ _ _ _ _ (by omega)]; exact blk_of b1h.out
  have k2 : blk ((W.setCell ⟨w.heap.size, 5, none⟩ (.int .i64 (s.k + 1))).setCell ⟨w.heap.size, 4, none⟩ (.int .i64 0)) (w.heap.size + 1 + 1) = some (.cells (dgmA 0 0 0) 34 (0, 0)) := by
    rw [blk_setCell_ne _ _ _ _ _ (by omega), blk_setCell_ne _ _ _ _ _ (by omega)]; exact blk_of b2h.out
  have hBv : Below w.heap.size w ((W.setCell ⟨w.heap.size, 5, none⟩ (.int .i64 (s.k + 1))).setCell ⟨w.heap.size, 4, none⟩ (.int .i64 0)) := (hBh.out.setCell (Nat.le_refl _) _).setCell (Nat.le_refl _) _
  generalize World.setCell (World.setCell W _ _) _ _ = V at *
  clear c5 c4 c1 c3 f5 f4 b0h b1h b2h hBh
  have c1 : V.cell? ⟨w.heap.size, 1, none⟩ = some (.int .u32 s.own) := (cell_of_block (blk_heap k0)).trans (rsA_c1 _)
  have c3 : V.cell? ⟨w.heap.size, 3, none⟩ = some (.int .i64 s.rd) := (cell_of_block (blk_heap k0)).trans (rsA_c3 _)
  have hBvh := Lib.hid hBv
  clear hBv
  go_region_with (go_at_call 8; refine (r_token s.own s.rd _ o1 o2).mono ?_; rintro e w' ⟨rfl, rfl⟩)
  all_goals
    clear c1 c3
    go_wp2_with fail
    obtain ⟨g1, g2⟩ := two_rows (V := V.drew) (g1 := w.heap.size + 1) (g2 := w.heap.size + 1 + 1) (T1 := 48) (T2 := 34) ((blk_drew_at V _).trans k1) ((blk_drew_at V _).trans k2) (by omega) (rsA { s with k := s.k + 1, q := 0 }) (dgmA 1 (tokZ s.own s.rd) 0)
    refine bodyPost_ret (results_row2 rfl _ _ (w.heap.size + 1) 48 (rsA { s with k := s.k + 1, q := 0 }) (0, 0) _ (w.heap.size + 1 + 1) 34 (dgmA 1 (tokZ s.own s.rd) 0) (0, 0) _ rfl rfl g1 g2 Try.underlying48 rfl (rs_infoA _) Try.underlying34 rfl (dgm_info _ (dg_size _ _ _))) rfl ⟨rfl, ?_⟩
    exact below_setRow (below_setRow (below_drewN hBvh.out 1) (by omega) _) (by omega) _
end Go.Proofs.Ytdpngimcmohmaaa
