/- The contracts of the document's Tick of layer 12, and of the law's same. Conditions: the bucket's numbers are as calls leave them. -/
import Derived.Test.YtchpiiccdoejdaaPacer2
namespace Go.Proofs.Ytchpiiccdoejdaa
open Go.RowKit
theorem rbk_info5 : (Try.prog.info? 32).map (·.size) = some 5 := by kernel_rfl
theorem bk_plain (a b c d e : Int) : Plain #[.int .i64 a, .int .i64 b, .int .i64 c, .int .i64 d, .int .i64 e] := by unfold Plain; simp [Value.oneCell']
theorem bkA_plain (s : BkS) : Plain (bkA s) := bk_plain _ _ _ _ _
theorem bkA_size (s : BkS) : (bkA s).size = 5 := by unfold bkA; rfl
theorem ld_rb0 (v : Value) : Instr.loadAt 32 v = wLoad 32 v := rfl
theorem ld_rb (w : World) (b : Nat) : (wLoad 32 (.pointer (some ⟨b, 0, none⟩))).run Try.prog w = loadAns 5 w (blk w b) (wLoadRes Try.prog 32 b w) := run_wLoad Try.underlying32 rfl rbk_info5 w b
theorem sto_rb0 (p x : Value) : Instr.storeAt 32 p x = wStore 32 p x := rfl
theorem sto_rb (w : World) (b : Nat) (C : Array Value) : (wStore 32 (.pointer (some ⟨b, 0, none⟩)) (.agg C)).run Try.prog w = storeAns 5 w b C (blk w b) (wStoreRes Try.prog 32 b C w) := run_wStore rbk_info5 w b C
theorem two_boxes (w : World) (A B : Obj) : ((w.alloc A).alloc B).heap[w.heap.size]? = some A ∧ ((w.alloc A).alloc B).heap[w.heap.size + 1]? = some B ∧ ((w.alloc A).alloc B).heap.size = w.heap.size + 2 ∧ Below w.heap.size w ((w.alloc A).alloc B) := by
  have s1 : ∀ (u : World) (o : Obj), (u.alloc o).heap.size = u.heap.size + 1 := fun u o => by show (u.heap.push _).size = _; rw [Array.size_push]
  exact ⟨blk_alloc (last_block0 _ _ _ rfl) _, last_block0 _ _ _ (s1 _ _).symm, by rw [s1, s1], ((Below.refl _ _).alloc (Nat.le_refl _) _).alloc (by rw [s1]; omega) _⟩
attribute [local irreducible] satZ
attribute [local irreducible] blk wLoad wLoadRes loadAns wStore wStoreRes storeAns Plain
attribute [local go_sem ↓] ld_rb0 sto_rb0
attribute [local go_sem] ld_rb sto_rb loadAns_some storeAns_some bk_plain bkA_plain bkA_size blk_alloc_if blk_setRow_if blk_setCell_if blk_drew_at blk_drewN_at rowPut_some cellPut_some
def RBk (W : World) (s : BkS) (e : Ending) (W' : World) : Prop := e = .returned (.agg (bkA s)) ∧ Below W.heap.size W W'
set_option maxHeartbeats 2000000 in
theorem r_tick (s : BkS) (c t : Int) (w : World) (ok : BkOk s c) (ht : t ≤ 9223372036854775807) :
    Calls Try.prog 17 #[.agg (bkA s), .int .i64 t] w (RBk w (bkTick s t)) := by
  obtain ⟨r0, r1, b0, b1, h0, h1, s0, s1, f0, f1⟩ := ok
  obtain ⟨rate, burst, held, spent, full⟩ := s
  simp only at r0 r1 b0 b1 h0 h1 s0 s1 f0 f1
  obtain ⟨hq0, hq1, hsz, hB⟩ := two_boxes w (.cells #[.int .i64 rate, .int .i64 burst, .int .i64 held, .int .i64 spent, .int .i64 full] 32) (.cells #[.int .i64 0, .int .i64 0, .int .i64 0, .int .i64 0, .int .i64 0] 32)
  have hs1 := Lib.hid (fun (x : World) (A : Array Value) (hx : x.heap[w.heap.size + 1]? = some (.cells #[.int .i64 0, .int .i64 0, .int .i64 0, .int .i64 0, .int .i64 0] 32 (0, 0))) => setRow_heap x (w.heap.size + 1) _ A _ _ hx)
  have key : ∀ r : BkS, bkTick ⟨rate, burst, held, spent, full⟩ t = r → Calls Try.prog 17 #[.agg #[.int .i64 rate, .int .i64 burst, .int .i64 held, .int .i64 spent, .int .i64 full], .int .i64 t] w (RBk w r) := by
    intro r hr
    by_cases h : t ≤ 0
    · have hrh : Hid (r = ⟨rate, burst, held, spent, full⟩) := by rw [← hr]; unfold bkTick; rw [if_pos h]; exact rfl
      have d1 : decide (t ≤ 0) = true := decide_eq_true h
      clear hr
      go_enter Try.func17, Try.ntmps17
      go_upto_region 1 with (fail)
      generalize World.alloc (World.alloc w _) _ = W at *
      have q0 := blk_of hq0
      have q1 := blk_of hq1
      have hq1h := Lib.hid hq1
      have hBh := Lib.hid hB
      clear hq0 hq1 hB
      go_wp2_with fail
      refine bodyPost_ret (v := .agg _) (results_cell_row rfl _ _ (w.heap.size + 1) 32 _ (0, 0) _ rfl (hs1.out _ _ hq1h.out) Try.underlying32 rfl rbk_info5) rfl ⟨?_, below_setRow hBh.out (by omega) _⟩
      rw [hrh.out]; rfl
    · have hN := satZ_nn (rate * t) (mul_nn _ _ (by omega) (by omega))
      have hfin : ∀ N, satZ (rate * t) = N → r = if N ≤ burst - held then ⟨rate, burst, held + N, spent, full⟩ else ⟨rate, burst, burst, spent, satZ (full + (N - (burst - held)))⟩ := fun N hN => by
        subst hN; rw [← hr]; unfold bkTick; rw [if_neg h]
      have hmul := Lib.hid (fun W => r_mul rate t W ⟨by omega, by omega⟩ ⟨by omega, by omega⟩)
      have hpos : 0 < t := by omega
      have hfin2 := hfin _ rfl
      clear h hfin hr
      generalize satZ (rate * t) = N at *
      obtain ⟨n0, n1⟩ := hN
      by_cases hle : N ≤ burst - held
      · rw [if_pos hle] at hfin2
        have hfh := Lib.hid hfin2
        have hadd := Lib.hid (fun X => (r_add full 0 X ⟨by omega, by omega⟩ ⟨by decide, by decide⟩))
        have hsat := Lib.hid (satZ_in full (by omega) (by omega))
        clear hfin2
        go_enter Try.func17, Try.ntmps17
        go_upto_region 1 with (fail)
        generalize World.alloc (World.alloc w _) _ = W at *
        have c0 : W.cell? ⟨w.heap.size, 0, none⟩ = some (.int .i64 rate) := by rw [cell_of_block hq0]; rfl
        have hq0h := Lib.hid hq0
        have hq1h := Lib.hid hq1
        have hBh := Lib.hid hB
        clear hq0 hq1 hB
        go_wp2_with fail
        refine (hmul.out _).mono ?_
        rintro e w1 ⟨rfl, hb1⟩
        have p0 := (hb1.block w.heap.size (by omega)).trans hq0h.out
        have p1 := (hb1.block (w.heap.size + 1) (by omega)).trans hq1h.out
        have d1 : w1.cell? ⟨w.heap.size, 1, none⟩ = some (.int .i64 burst) := by rw [cell_of_block p0]; rfl
        have d2 : w1.cell? ⟨w.heap.size, 2, none⟩ = some (.int .i64 held) := by rw [cell_of_block p0]; rfl
        have d4 : w1.cell? ⟨w.heap.size, 4, none⟩ = some (.int .i64 full) := by rw [cell_of_block p0]; rfl
        have g2 : w1.frozen? ⟨w.heap.size, 2, none⟩ = false := frozen_of_row w1 _ _ _ _ p0
        have hB1 := hBh.out.trans (hb1.mono (by omega))
        have hsz1 : w.heap.size + 2 ≤ w1.heap.size := by have := hb1.size; omega
        have p0h := Lib.hid p0
        have p1h := Lib.hid p1
        clear hb1 c0 hq0h hq1h hBh p0 p1 hmul
        go_wp2_with fail
        all_goals
          first
            | refine (hadd.out _).mono ?_
            | (have hzz : N - (burst - held) = 0 := by omega
               rw [hzz]
               refine (hadd.out _).mono ?_)
          rintro e w2 ⟨rfl, hb2⟩
          have hx0 : (w1.setCell ⟨w.heap.size, 2, none⟩ (.int .i64 (held + N))).heap[w.heap.size]? = some (.cells #[.int .i64 rate, .int .i64 burst, .int .i64 (held + N), .int .i64 spent, .int .i64 full] 32 (0, 0)) := blk_set (p0h.out : w1.heap[w.heap.size]? = some (.cells _ _ (0, 0))) 2 (.int .i64 (held + N))
          have hx1 := blk_set_other (p1h.out : w1.heap[w.heap.size + 1]? = _) (by omega : w.heap.size + 1 ≠ w.heap.size) 2 (.int .i64 (held + N))
          have hxs : (w1.setCell ⟨w.heap.size, 2, none⟩ (.int .i64 (held + N))).heap.size = w1.heap.size := by simp [World.setCell]
          have hB2 := (hB1.setCell (p := ⟨w.heap.size, 2, none⟩) (Nat.le_refl _) (.int .i64 (held + N))).trans (hb2.mono (by rw [hxs]; omega))
          have y0 := (hb2.block w.heap.size (by rw [hxs]; omega)).trans hx0
          have y1 := (hb2.block (w.heap.size + 1) (by rw [hxs]; omega)).trans hx1
          have q0 := blk_of y0
          have q1 := blk_of y1
          have e4 : w2.cell? ⟨w.heap.size, 4, none⟩ = some (.int .i64 full) := by rw [cell_of_block y0]; rfl
          have g4 : w2.frozen? ⟨w.heap.size, 4, none⟩ = false := frozen_of_row w2 _ _ _ _ y0
          have y1h := Lib.hid y1
          clear hb2 hx0 hx1 hxs y0 y1 d1 d2 d4 g2 p0h p1h hB1
          go_wp2_with fail
          refine bodyPost_ret (v := .agg _) (results_cell_row rfl _ _ (w.heap.size + 1) 32 _ (0, 0) _ rfl (hs1.out _ _ ((heap_setCell_other _ _ _ _ (by simp)).trans y1h.out)) Try.underlying32 rfl rbk_info5) rfl ⟨?_, below_setRow (hB2.setCell (p := ⟨w.heap.size, 4, none⟩) (Nat.le_refl _) _) (by omega) _⟩
          rw [hfh.out]
          unfold bkA; simp only; rw [hsat.out]
      · rw [if_neg hle] at hfin2
        have hfh := Lib.hid hfin2
        have hadd := Lib.hid (fun X => (r_add full (N - (burst - held)) X ⟨by omega, by omega⟩ ⟨by omega, by omega⟩))
        clear hfin2
        go_enter Try.func17, Try.ntmps17
        go_upto_region 1 with (fail)
        generalize World.alloc (World.alloc w _) _ = W at *
        have c0 : W.cell? ⟨w.heap.size, 0, none⟩ = some (.int .i64 rate) := by rw [cell_of_block hq0]; rfl
        have hq0h := Lib.hid hq0
        have hq1h := Lib.hid hq1
        have hBh := Lib.hid hB
        clear hq0 hq1 hB
        go_wp2_with fail
        refine (hmul.out _).mono ?_
        rintro e w1 ⟨rfl, hb1⟩
        have p0 := (hb1.block w.heap.size (by omega)).trans hq0h.out
        have p1 := (hb1.block (w.heap.size + 1) (by omega)).trans hq1h.out
        have d1 : w1.cell? ⟨w.heap.size, 1, none⟩ = some (.int .i64 burst) := by rw [cell_of_block p0]; rfl
        have d2 : w1.cell? ⟨w.heap.size, 2, none⟩ = some (.int .i64 held) := by rw [cell_of_block p0]; rfl
        have d4 : w1.cell? ⟨w.heap.size, 4, none⟩ = some (.int .i64 full) := by rw [cell_of_block p0]; rfl
        have g2 : w1.frozen? ⟨w.heap.size, 2, none⟩ = false := frozen_of_row w1 _ _ _ _ p0
        have hB1 := hBh.out.trans (hb1.mono (by omega))
        have hsz1 : w.heap.size + 2 ≤ w1.heap.size := by have := hb1.size; omega
        have p0h := Lib.hid p0
        have p1h := Lib.hid p1
        clear hb1 c0 hq0h hq1h hBh p0 p1 hmul
        go_wp2_with fail
        all_goals
          refine (hadd.out _).mono ?_
          rintro e w2 ⟨rfl, hb2⟩
          have hx0 : (w1.setCell ⟨w.heap.size, 2, none⟩ (.int .i64 (held + (burst - held)))).heap[w.heap.size]? = some (.cells #[.int .i64 rate, .int .i64 burst, .int .i64 (held + (burst - held)), .int .i64 spent, .int .i64 full] 32 (0, 0)) := blk_set (p0h.out : w1.heap[w.heap.size]? = some (.cells _ _ (0, 0))) 2 (.int .i64 (held + (burst - held)))
          have hx1 := blk_set_other (p1h.out : w1.heap[w.heap.size + 1]? = _) (by omega : w.heap.size + 1 ≠ w.heap.size) 2 (.int .i64 (held + (burst - held)))
          have hxs : (w1.setCell ⟨w.heap.size, 2, none⟩ (.int .i64 (held + (burst - held)))).heap.size = w1.heap.size := by simp [World.setCell]
          have hB2 := (hB1.setCell (p := ⟨w.heap.size, 2, none⟩) (Nat.le_refl _) (.int .i64 (held + (burst - held)))).trans (hb2.mono (by rw [hxs]; omega))
          have y0 := (hb2.block w.heap.size (by rw [hxs]; omega)).trans hx0
          have y1 := (hb2.block (w.heap.size + 1) (by rw [hxs]; omega)).trans hx1
          have q0 := blk_of y0
          have q1 := blk_of y1
          have e4 : w2.cell? ⟨w.heap.size, 4, none⟩ = some (.int .i64 full) := by rw [cell_of_block y0]; rfl
          have g4 : w2.frozen? ⟨w.heap.size, 4, none⟩ = false := frozen_of_row w2 _ _ _ _ y0
          have y1h := Lib.hid y1
          clear hb2 hx0 hx1 hxs y0 y1 d1 d2 d4 g2 p0h p1h hB1
          go_wp2_with fail
          refine bodyPost_ret (v := .agg _) (results_cell_row rfl _ _ (w.heap.size + 1) 32 _ (0, 0) _ rfl (hs1.out _ _ ((heap_setCell_other _ _ _ _ (by simp)).trans y1h.out)) Try.underlying32 rfl rbk_info5) rfl ⟨?_, below_setRow (hB2.setCell (p := ⟨w.heap.size, 4, none⟩) (Nat.le_refl _) _) (by omega) _⟩
          rw [hfh.out]
          unfold bkA; simp only; rw [show held + (burst - held) = burst by omega]
  exact key _ rfl
/-! ### same -/
set_option maxRecDepth 100000 in
set_option maxHeartbeats 2000000 in
theorem q_same (p : Nat) (s : BkS) (w : World) (hs : BkAt w p s) :
    Calls Try.prog 19 #[.pointer (some ⟨p, 0, none⟩), .agg (bkA s)] w (Ret w (.bool true)) := by
  obtain ⟨rate, burst, held, spent, full⟩ := s
  have hl := hs.lt
  have hb0 := last_block0 w (.cells #[.int .i64 rate, .int .i64 burst, .int .i64 held, .int .i64 spent, .int .i64 full] 32) w.heap.size rfl
  have hp := blk_alloc hs (.cells #[.int .i64 rate, .int .i64 burst, .int .i64 held, .int .i64 spent, .int .i64 full] 32)
  have hB : Below w.heap.size w (w.alloc (.cells #[.int .i64 rate, .int .i64 burst, .int .i64 held, .int .i64 spent, .int .i64 full] 32)) := (Below.refl _ _).alloc (Nat.le_refl _) _
  unfold bkA at hp ⊢
  simp only at hp ⊢
  go_enter Try.func19, Try.ntmps19
  go_upto_region 1 with (fail)
  generalize World.alloc w _ = W at *
  have c0 : W.cell? ⟨p, 0, none⟩ = some (.int .i64 rate) := by rw [cell_of_block hp]; rfl
  have c1 : W.cell? ⟨p, 1, none⟩ = some (.int .i64 burst) := by rw [cell_of_block hp]; rfl
  have c2 : W.cell? ⟨p, 2, none⟩ = some (.int .i64 held) := by rw [cell_of_block hp]; rfl
  have c3 : W.cell? ⟨p, 3, none⟩ = some (.int .i64 spent) := by rw [cell_of_block hp]; rfl
  have c4 : W.cell? ⟨p, 4, none⟩ = some (.int .i64 full) := by rw [cell_of_block hp]; rfl
  have d0 : W.cell? ⟨w.heap.size, 0, none⟩ = some (.int .i64 rate) := by rw [cell_of_block hb0]; rfl
  have d1 : W.cell? ⟨w.heap.size, 1, none⟩ = some (.int .i64 burst) := by rw [cell_of_block hb0]; rfl
  have d2 : W.cell? ⟨w.heap.size, 2, none⟩ = some (.int .i64 held) := by rw [cell_of_block hb0]; rfl
  have d3 : W.cell? ⟨w.heap.size, 3, none⟩ = some (.int .i64 spent) := by rw [cell_of_block hb0]; rfl
  have d4 : W.cell? ⟨w.heap.size, 4, none⟩ = some (.int .i64 full) := by rw [cell_of_block hb0]; rfl
  clear hs hp hb0
  go_quiet (fail)
  go_wp2_with fail
  go_ret
  exact ⟨rfl, below_drewN hB _⟩
end Go.Proofs.Ytchpiiccdoejdaa
