/- The law's played of layer 12. Conditions: the slice's elements are read as the calls named. -/
import Derived.Test.YtchpiiccdoejdaaPacer3
namespace Go.Proofs.Ytchpiiccdoejdaa
open Go.RowKit
/-- a call -/
structure BkOp where
  kind : Int
  a : Int
  b : Int
def BopsAt (w : World) (s : Option Addr) (len : Nat) (g : Nat → BkOp) : Prop := ∀ i, i < len → ∃ b off, s = some ⟨b, off, none⟩ ∧
  w.cell? ⟨b, off + i * 3, none⟩ = some (.int .i64 (g i).kind) ∧ w.cell? ⟨b, off + i * 3 + 1, none⟩ = some (.int .i64 (g i).a) ∧ w.cell? ⟨b, off + i * 3 + 2, none⟩ = some (.int .i64 (g i).b) ∧ I64 (g i).kind ∧ I64 (g i).a ∧ I64 (g i).b
theorem BopsAt.below {w w' : World} {a : Option Addr} {len : Nat} {g : Nat → BkOp} (h : BopsAt w a len g) (hb : Below w.heap.size w w') : BopsAt w' a len g := by
  intro i hi
  obtain ⟨b, off, ha, c0, c1, c2, c3⟩ := h i hi
  have hl := cell_block_lt c0
  exact ⟨b, off, ha, (hb.cell (p := ⟨b, off + i * 3, none⟩) hl).trans c0, (hb.cell (p := ⟨b, off + i * 3 + 1, none⟩) hl).trans c1, (hb.cell (p := ⟨b, off + i * 3 + 2, none⟩) hl).trans c2, c3⟩
theorem bops_open {w : World} {a : Option Addr} {len cap : Nat} (h : IsRec [some .i64, some .i64, some .i64] w a len cap) : ∃ g, BopsAt w a len g := by
  obtain ⟨f, hk, hc, _⟩ := h
  have key : ∀ i, ∃ o : BkOp, i < len → f i 0 = .int .i64 o.kind ∧ f i 1 = .int .i64 o.a ∧ f i 2 = .int .i64 o.b ∧ I64 o.kind ∧ I64 o.a ∧ I64 o.b := by
    intro i
    by_cases hi : i < len
    · obtain ⟨t, h0, w0⟩ := (hk i 0 (some .i64) hi rfl).int
      obtain ⟨l, h1, w1⟩ := (hk i 1 (some .i64) hi rfl).int
      obtain ⟨n, h2, w2⟩ := (hk i 2 (some .i64) hi rfl).int
      exact ⟨⟨t, l, n⟩, fun _ => ⟨h0, h1, h2, i64_bd w0, i64_bd w1, i64_bd w2⟩⟩
    · exact ⟨⟨0, 0, 0⟩, fun h => absurd h hi⟩
  refine ⟨fun i => (key i).choose, fun i hi => ?_⟩
  obtain ⟨h0, h1, h2, h3⟩ := (key i).choose_spec hi
  obtain ⟨b, off, ha, hcell⟩ := hc i hi
  refine ⟨b, off, ha, ?_, ?_, ?_, h3⟩
  · rw [← h0]; exact hcell 0 (by decide)
  · rw [← h1]; exact hcell 1 (by decide)
  · rw [← h2]; exact hcell 2 (by decide)
def z0B : BkS := ⟨0, 0, 0, 0, 0⟩
theorem bkA_set0 (s : BkS) (x : Int) : (bkA s).setIfInBounds 0 (.int .i64 x) = bkA { s with rate := x } := rfl
theorem bkA_set1 (s : BkS) (x : Int) : (bkA s).setIfInBounds 1 (.int .i64 x) = bkA { s with burst := x } := rfl
theorem bkA_set2 (s : BkS) (x : Int) : (bkA s).setIfInBounds 2 (.int .i64 x) = bkA { s with held := x } := rfl
theorem bkA_set3 (s : BkS) (x : Int) : (bkA s).setIfInBounds 3 (.int .i64 x) = bkA { s with spent := x } := rfl
theorem bkA_g0 (s : BkS) : (bkA s)[0]? = some (.int .i64 s.rate) := rfl
theorem bkA_g1 (s : BkS) : (bkA s)[1]? = some (.int .i64 s.burst) := rfl
theorem bkA_g2 (s : BkS) : (bkA s)[2]? = some (.int .i64 s.held) := rfl
theorem bkA_g3 (s : BkS) : (bkA s)[3]? = some (.int .i64 s.spent) := rfl
theorem bkA_g4 (s : BkS) : (bkA s)[4]? = some (.int .i64 s.full) := rfl
theorem zeroRbk (w : World) : (zeroValue 32).run Try.prog w = .ok (.agg (bkA z0B)) w := by kernel_rfl
theorem new_ok (r b : Int) (hr : bkRight r b = true) : BkOk ⟨r, b, b, 0, 0⟩ 0 := by
  obtain ⟨a1, a2, a3, a4⟩ := (bkRight_iff r b).1 hr
  exact ⟨a1, a2, a3, a4, by simp only; omega, by simp, by simp, by simp, by simp, by simp⟩
/-- what played hands back, where the sizes are right -/
def PlYes (W : World) (e : Ending) (W' : World) : Prop := ∃ (s : BkS) (p : Nat), BkOk s 1677721600 ∧ e = .returned (.tuple #[.pointer (some ⟨p, 0, none⟩), .agg (bkA s), .bool true]) ∧ BkAt W' p s ∧ W.heap.size ≤ p ∧ Below W.heap.size W W'
def PlNo (W : World) (e : Ending) (W' : World) : Prop := e = .returned (.tuple #[.pointer none, .agg (bkA z0B), .bool true]) ∧ Below W.heap.size W W'
attribute [local irreducible] satZ bkTick bkTake bkMay bkRight bkChange bkErr
attribute [local irreducible] blk wLoad wLoadRes loadAns wStore wStoreRes storeAns Plain bkA
attribute [local go_sem ↓] ld_rb0 sto_rb0
attribute [local go_sem] ld_rb sto_rb loadAns_some storeAns_some bkA_plain bkA_size blk_alloc_if blk_setRow_if blk_setCell_if blk_drew_at blk_drewN_at rowPut_some cellPut_some bkA_set0 bkA_set1 bkA_set2 bkA_set3
set_option maxRecDepth 100000 in
set_option maxHeartbeats 2000000 in
theorem pl_no (r b : Int) (a : Option Addr) (len cap : Nat) (w : World) (hr : bkRight r b = false) :
    Calls Try.prog 10 #[.int .i64 r, .int .i64 b, .slice a len cap] w (PlNo w) := by
  have hz := zeroRbk
  obtain ⟨hq0, hq1, hsz, hB⟩ := two_boxes w (.cells (bkA z0B) 32) (.cells (bkA z0B) 32)
  have kn := Lib.hid (fun W => s_new_no r b W hr)
  have kr := Lib.hid (fun W => r_right r b W)
  rw [hr] at kr
  clear hr
  go_enter Try.func10, Try.ntmps10
  go_upto_region 2 with (fail)
  generalize World.alloc (World.alloc w _) _ = W at *
  have q0 := blk_of hq0
  have q1 := blk_of hq1
  have hq0h := Lib.hid hq0
  have hBh := Lib.hid hB
  clear hq0 hq1 hB
  go_wp2_with fail
  refine (kn.out _).mono ?_
  rintro e w' ⟨rfl, rfl⟩
  go_wp2_with fail
  refine (kr.out _).mono ?_
  rintro e w' ⟨rfl, rfl⟩
  go_upto_region 4 with (fail)
  go_region
  all_goals
    go_wp2_with fail
    refine bodyPost_ret (v := .tuple #[.pointer none, .agg (bkA z0B), .bool true]) (results_tmp_row_tmp rfl _ _ w.heap.size 32 (bkA z0B) (0, 0) _ _ _ rfl rfl rfl ?_ Try.underlying32 rfl (by rw [rbk_info5, bkA_size])) rfl ⟨rfl, below_setRow (below_drewN hBh.out 1) (Nat.le_refl _) _⟩
    exact setRow_heap _ _ _ _ _ _ (show W.drew.heap[w.heap.size]? = _ from hq0h.out)
set_option maxRecDepth 100000 in
set_option maxHeartbeats 4000000 in
theorem pl_yes (r b : Int) (a : Option Addr) (len cap : Nat) (g : Nat → BkOp) (w : World) (hs : BopsAt w a len g) (hn : len ≤ 9223372036854775807) (hr : bkRight r b = true) :
    Calls Try.prog 10 #[.int .i64 r, .int .i64 b, .slice a len cap] w (PlYes w) := by
  have hz := zeroRbk
  obtain ⟨hq0, hq1, hsz, hB⟩ := two_boxes w (.cells (bkA z0B) 32) (.cells (bkA z0B) 32)
  have kn := Lib.hid (fun W => s_new_ok r b W hr)
  have kr := Lib.hid (fun W => r_right r b W)
  rw [hr] at kr
  have hok := new_ok r b hr
  have hsh := hide hs
  clear hr hs
  go_enter Try.func10, Try.ntmps10
  go_upto_region 2 with (fail)
  generalize World.alloc (World.alloc w _) _ = W at *
  have hza : W.heap.size ≤ w.heap.size + 2 := Nat.le_of_eq hsz
  have hzb : w.heap.size + 2 ≤ W.heap.size := Nat.le_of_eq hsz.symm
  clear hsz
  have hq0h := Lib.hid hq0
  have hq1h := Lib.hid hq1
  have hBh := Lib.hid hB
  clear hq0 hq1 hB
  go_wp2_with fail
  refine (kn.out _).mono ?_
  rintro e w1 ⟨rfl, hK, hb1⟩
  have q0 := blk_of ((hb1.block _ (by omega)).trans hq0h.out)
  have q1 := blk_of ((hb1.block _ (by omega)).trans hq1h.out)
  have hB1 := hBh.out.trans (hb1.mono (by omega))
  have y1 := blk_heap q1
  have c0 : w1.cell? ⟨w.heap.size + 1, 0, none⟩ = some (.int .i64 0) := (cell_of_block y1).trans (bkA_g0 _)
  have c1 : w1.cell? ⟨w.heap.size + 1, 1, none⟩ = some (.int .i64 0) := (cell_of_block y1).trans (bkA_g1 _)
  have c2 : w1.cell? ⟨w.heap.size + 1, 2, none⟩ = some (.int .i64 0) := (cell_of_block y1).trans (bkA_g2 _)
  have g0 : w1.frozen? ⟨w.heap.size + 1, 0, none⟩ = false := frozen_of_row w1 _ _ _ _ y1
  have g1 : w1.frozen? ⟨w.heap.size + 1, 1, none⟩ = false := frozen_of_row w1 _ _ _ _ y1
  have g2 : w1.frozen? ⟨w.heap.size + 1, 2, none⟩ = false := frozen_of_row w1 _ _ _ _ y1
  clear hb1 hq0h hq1h hBh hz y1
  go_wp2_with fail
  refine (kr.out _).mono ?_
  rintro e w' ⟨rfl, rfl⟩
  go_upto_region 8 with (fail)
  have hX1 : blk (((w1.setCell ⟨w.heap.size + 1, 0, none⟩ (.int .i64 r)).setCell ⟨w.heap.size + 1, 1, none⟩ (.int .i64 b)).setCell ⟨w.heap.size + 1, 2, none⟩ (.int .i64 b)) (w.heap.size + 1) = some (.cells (bkA ⟨r, b, b, 0, 0⟩) 32 (0, 0)) := by
    rw [blk_setCell_if, if_pos rfl, blk_setCell_if, if_pos rfl, blk_setCell_if, if_pos rfl, q1, cellPut_some, bkA_set0, cellPut_some, bkA_set1, cellPut_some, bkA_set2]; rfl
  have hX0 : blk (((w1.setCell ⟨w.heap.size + 1, 0, none⟩ (.int .i64 r)).setCell ⟨w.heap.size + 1, 1, none⟩ (.int .i64 b)).setCell ⟨w.heap.size + 1, 2, none⟩ (.int .i64 b)) w.heap.size = some (.cells (bkA z0B) 32 (0, 0)) := by
    rw [blk_setCell_if, if_neg (by omega), blk_setCell_if, if_neg (by omega), blk_setCell_if, if_neg (by omega), q0]
  have hXK : blk (((w1.setCell ⟨w.heap.size + 1, 0, none⟩ (.int .i64 r)).setCell ⟨w.heap.size + 1, 1, none⟩ (.int .i64 b)).setCell ⟨w.heap.size + 1, 2, none⟩ (.int .i64 b)) W.heap.size = some (.cells (bkA ⟨r, b, b, 0, 0⟩) 39 (0, 0)) := by
    rw [blk_setCell_if, if_neg (by omega), blk_setCell_if, if_neg (by omega), blk_setCell_if, if_neg (by omega)]; exact blk_of hK
  have hXB : Below w.heap.size w (((w1.setCell ⟨w.heap.size + 1, 0, none⟩ (.int .i64 r)).setCell ⟨w.heap.size + 1, 1, none⟩ (.int .i64 b)).setCell ⟨w.heap.size + 1, 2, none⟩ (.int .i64 b)) :=
    ((hB1.setCell (p := ⟨w.heap.size + 1, 0, none⟩) (by show _ ≤ w.heap.size + 1; omega) _).setCell (p := ⟨w.heap.size + 1, 1, none⟩) (by show _ ≤ w.heap.size + 1; omega) _).setCell (p := ⟨w.heap.size + 1, 2, none⟩) (by show _ ≤ w.heap.size + 1; omega) _
  generalize World.setCell (World.setCell (World.setCell w1 _ _) _ _) _ _ = V at *
  have x0h := Lib.hid hX0
  have x1h := Lib.hid hX1
  have xKh := Lib.hid hXK
  have xBh := Lib.hid hXB
  have hok0 := Lib.hid hok
  clear hX0 hX1 hXK hXB q0 q1 hK hB1 c0 c1 c2 g0 g1 g2 kr hok
  generalize W.heap.size = p at *
  go_wp2_with fail
  go_loopw [12] (fun i wr => ∃ (k : Nat) (s : BkS), k ≤ len ∧ k ≤ 100 ∧ i = .int .i64 k ∧ BkOk s (16777216 * (k : Int)) ∧ blk wr w.heap.size = some (.cells (bkA z0B) 32 (0, 0)) ∧ blk wr (w.heap.size + 1) = some (.cells (bkA s) 32 (0, 0)) ∧ blk wr p = some (.cells (bkA s) 39 (0, 0)) ∧ Below w.heap.size w wr) (fun i _ => len - (intOf i).toNat)
  case atStart => exact ⟨0, _, by omega, by omega, rfl, hok0.out, x0h.out, x1h.out, xKh.out, xBh.out⟩
  case round =>
    obtain ⟨k, s, hk, hk2, rfl, hok, r0, r1, rK, hB⟩ := hrel
    have hne : ¬ p = w.heap.size + 1 := by omega
    have hne0 : ¬ p = w.heap.size := by omega
    have hKl := blk_lt rK
    by_cases hlt : k < len
    · by_cases hlt2 : k < 100
      · obtain ⟨bb, off, rfl, c0', c1', c2', c3⟩ := hsh.out k hlt
        have hbb : bb < w.heap.size := cell_block_lt c0'
        have c0 := (hB.cell (p := ⟨bb, off + k * 3, none⟩) hbb).trans c0'
        have c1 := (hB.cell (p := ⟨bb, off + k * 3 + 1, none⟩) hbb).trans c1'
        have c2 := (hB.cell (p := ⟨bb, off + k * 3 + 2, none⟩) hbb).trans c2'
        clear c0' c1' c2'
        have i1 : (k : Int) < (len : Int) := by omega
        obtain ⟨x0, x1, x2⟩ := c3
        generalize g k = o at *
        obtain ⟨kind, oa, ob⟩ := o
        simp only at c0 c1 c2 x0 x1 x2
        have r0h := Lib.hid r0
        have r1h := Lib.hid r1
        have rKh := Lib.hid rK
        have hBs := hB.size
        clear r0 r1 rK
        have v0 : blk (wr.alloc (.cells #[.int .i64 kind, .int .i64 oa, .int .i64 ob] 44)) w.heap.size = some (.cells (bkA z0B) 32 (0, 0)) := by rw [blk_alloc_if, if_neg (by omega)]; exact r0h.out
        have v1 : blk (wr.alloc (.cells #[.int .i64 kind, .int .i64 oa, .int .i64 ob] 44)) (w.heap.size + 1) = some (.cells (bkA s) 32 (0, 0)) := by rw [blk_alloc_if, if_neg (by omega)]; exact r1h.out
        have vK : BkAt (wr.alloc (.cells #[.int .i64 kind, .int .i64 oa, .int .i64 ob] 44)) p s := blk_heap (by rw [blk_alloc_if, if_neg (by omega)]; exact rKh.out)
        have vo : (wr.alloc (.cells #[.int .i64 kind, .int .i64 oa, .int .i64 ob] 44)).heap[wr.heap.size]? = some (.cells #[.int .i64 kind, .int .i64 oa, .int .i64 ob] 44 (0, 0)) := last_block0 _ _ _ rfl
        have vB : Below w.heap.size w (wr.alloc (.cells #[.int .i64 kind, .int .i64 oa, .int .i64 ob] 44)) := hB.alloc hBs _
        go_upto_region 12 with (fail)
        clear c0 c1 c2 r0h r1h rKh hB
        have ol : p < wr.heap.size := hKl
        generalize wr.heap.size = o at *
        generalize World.alloc wr _ = V at *
        have e0 : V.cell? ⟨o, 0, none⟩ = some (.int .i64 kind) := by rw [cell_of_block vo]; rfl
        have e1 : V.cell? ⟨o, 1, none⟩ = some (.int .i64 oa) := by rw [cell_of_block vo]; rfl
        have e2 : V.cell? ⟨o, 2, none⟩ = some (.int .i64 ob) := by rw [cell_of_block vo]; rfl
        have d2 : V.cell? ⟨w.heap.size + 1, 2, none⟩ = some (.int .i64 s.held) := (cell_of_block (blk_heap v1)).trans (bkA_g2 _)
        have vBs := vB.size
        have vKl := vK.lt
        have vol : o < V.heap.size := (Array.getElem?_eq_some_iff.1 vo).1
        have v0h := Lib.hid v0
        have vKh := Lib.hid vK
        have voh := Lib.hid vo
        have hokh := Lib.hid hok
        clear v0 vK vo hok
        by_cases k0 : kind = 0
        · subst k0
          have hmay := Lib.hid (fun X hX => s_may p s oa X hX)
          have htake := Lib.hid (fun X hX => s_take p s (16777216 * (k : Int)) oa X hX hokh.out (by omega))
          by_cases hm : 0 ≤ oa ∧ oa ≤ s.held
          · have em : bkMay s oa = true := by unfold bkMay; simp [hm.1, hm.2]
            have htk : Hid (bkTake s oa = { s with held := s.held - oa, spent := s.spent + oa }) := by unfold bkTake; rw [if_pos hm]; exact rfl
            rw [em] at hmay htake
            obtain ⟨ha0, ha1⟩ := hm
            have hbu := hokh.out.b1
            have hhb := hokh.out.h1
            have hsp := hokh.out.s1
            have hsp0 := hokh.out.s0
            have hh0 := hokh.out.h0
            clear em
            go_wp2_with fail
            refine (hmay.out _ vKh.out).mono ?_
            rintro e w' ⟨rfl, rfl⟩
            go_wp2_with fail
            refine (htake.out _ vKh.out).mono ?_
            rintro e w2 ⟨rfl, hK2, hg2⟩
            have w0 : blk w2 w.heap.size = some (.cells (bkA z0B) 32 (0, 0)) := blk_of ((only_blk hg2 (by omega) (by omega)).trans (blk_heap v0h.out))
            have w1' : blk w2 (w.heap.size + 1) = some (.cells (bkA s) 32 (0, 0)) := blk_of ((only_blk hg2 (by omega) (by omega)).trans (blk_heap v1))
            have wo := (only_blk hg2 vol (by omega)).trans voh.out
            have wB := below_of_only vB hg2 vB.size (by omega)
            have n1 : w2.cell? ⟨o, 1, none⟩ = some (.int .i64 oa) := by rw [cell_of_block wo]; rfl
            have n2 : w2.cell? ⟨o, 2, none⟩ = some (.int .i64 ob) := by rw [cell_of_block wo]; rfl
            have m2 : w2.cell? ⟨w.heap.size + 1, 2, none⟩ = some (.int .i64 s.held) := (cell_of_block (blk_heap w1')).trans (bkA_g2 _)
            have m3 : w2.cell? ⟨w.heap.size + 1, 3, none⟩ = some (.int .i64 s.spent) := (cell_of_block (blk_heap w1')).trans (bkA_g3 _)
            have j2 : w2.frozen? ⟨w.heap.size + 1, 2, none⟩ = false := frozen_of_row w2 _ _ _ _ (blk_heap w1')
            have j3 : w2.frozen? ⟨w.heap.size + 1, 3, none⟩ = false := frozen_of_row w2 _ _ _ _ (blk_heap w1')
            have w2s := wB.size
            have gs := hg2.size
            clear hg2 wo v1 e0 e1 e2 d2 v0h voh vB vKh hmay htake
            have w0h := Lib.hid w0
            have w1h := Lib.hid w1'
            have hK2h := Lib.hid hK2
            clear w0 w1' hK2
            go_upto_region 29 with (fail)
            have w0 := w0h.out
            have w1' := w1h.out
            have hK2 := hK2h.out
            have t0 : blk ((w2.setCell ⟨w.heap.size + 1, 2, none⟩ (.int .i64 (s.held - oa))).setCell ⟨w.heap.size + 1, 3, none⟩ (.int .i64 (s.spent + oa))) w.heap.size = some (.cells (bkA z0B) 32 (0, 0)) := by rw [blk_setCell_if, if_neg (by omega), blk_setCell_if, if_neg (by omega)]; exact w0
            have t1 : blk ((w2.setCell ⟨w.heap.size + 1, 2, none⟩ (.int .i64 (s.held - oa))).setCell ⟨w.heap.size + 1, 3, none⟩ (.int .i64 (s.spent + oa))) (w.heap.size + 1) = some (.cells (bkA (bkTake s oa)) 32 (0, 0)) := by rw [blk_setCell_if, if_pos rfl, blk_setCell_if, if_pos rfl, w1', cellPut_some, bkA_set2, cellPut_some, bkA_set3, htk.out]
            have tK : BkAt ((w2.setCell ⟨w.heap.size + 1, 2, none⟩ (.int .i64 (s.held - oa))).setCell ⟨w.heap.size + 1, 3, none⟩ (.int .i64 (s.spent + oa))) p (bkTake s oa) := (heap_setCell_other _ _ _ _ hne).trans ((heap_setCell_other _ _ _ _ hne).trans hK2)
            have tB : Below w.heap.size w ((w2.setCell ⟨w.heap.size + 1, 2, none⟩ (.int .i64 (s.held - oa))).setCell ⟨w.heap.size + 1, 3, none⟩ (.int .i64 (s.spent + oa))) := (wB.setCell (p := ⟨w.heap.size + 1, 2, none⟩) (by show _ ≤ w.heap.size + 1; omega) _).setCell (p := ⟨w.heap.size + 1, 3, none⟩) (by show _ ≤ w.heap.size + 1; omega) _
            have hokn : BkOk (bkTake s oa) (16777216 * ((k + 1 : Nat) : Int)) := (bkTake_ok s _ oa hokh.out).mono (by omega)
            clear w0 w1' hK2 wB n1 n2 m2 m3 j2 j3 w0h w1h hK2h hokh htk
            generalize World.setCell (World.setCell w2 _ _) _ _ = Y at *
            have tKl := tK.lt
            have hsm := Lib.hid (q_same p (bkTake s oa) Y tK)
            have tKh := Lib.hid (blk_of tK)
            have hoknh := Lib.hid hokn
            clear tK hokn
            go_wp2_with fail
            refine hsm.out.mono ?_
            rintro e w5 ⟨rfl, hb5⟩
            have tBs := tB.size
            have u0 := (blk_below hb5 (by omega : w.heap.size < Y.heap.size)).trans t0
            have u1 := (blk_below hb5 (by omega : w.heap.size + 1 < Y.heap.size)).trans t1
            have uK := (blk_below hb5 tKl).trans tKh.out
            have uB := tB.trans (hb5.mono tBs)
            clear t0 t1 tB hb5
            go_wp2_with fail
            go_roundw
            case rel => exact ⟨k + 1, _, by omega, by omega, by go_num, hoknh.out, u0, u1, uK, uB⟩
            case measure => simp [intOf]; omega
          · have em : bkMay s oa = false := by
              unfold bkMay
              by_cases h0 : 0 ≤ oa
              · have : ¬ oa ≤ s.held := fun x => hm ⟨h0, x⟩
                simp [this]
              · simp [h0]
            have etk : bkTake s oa = s := by unfold bkTake; rw [if_neg hm]
            rw [em] at hmay htake
            rw [etk] at htake
            have hd : (decide (0 ≤ oa) = false) ∨ (decide (0 ≤ oa) = true ∧ decide (oa ≤ s.held) = false) := by
              by_cases h0 : 0 ≤ oa
              · right; exact ⟨decide_eq_true h0, decide_eq_false (fun x => hm ⟨h0, x⟩)⟩
              · left; exact decide_eq_false h0
            clear em etk hm
            rcases hd with hd | ⟨hd, hd2⟩
            all_goals
              go_wp2_with fail
              refine (hmay.out _ vKh.out).mono ?_
              rintro e w' ⟨rfl, rfl⟩
              go_wp2_with fail
              refine (htake.out _ vKh.out).mono ?_
              rintro e w2 ⟨rfl, hK2, hg2⟩
              have w0 : blk w2 w.heap.size = some (.cells (bkA z0B) 32 (0, 0)) := blk_of ((only_blk hg2 (by omega) (by omega)).trans (blk_heap v0h.out))
              have w1' : blk w2 (w.heap.size + 1) = some (.cells (bkA s) 32 (0, 0)) := blk_of ((only_blk hg2 (by omega) (by omega)).trans (blk_heap v1))
              have wo := (only_blk hg2 vol (by omega)).trans voh.out
              have wB := below_of_only vB hg2 vB.size (by omega)
              have n1 : w2.cell? ⟨o, 1, none⟩ = some (.int .i64 oa) := by rw [cell_of_block wo]; rfl
              have n2 : w2.cell? ⟨o, 2, none⟩ = some (.int .i64 ob) := by rw [cell_of_block wo]; rfl
              have m2 : w2.cell? ⟨w.heap.size + 1, 2, none⟩ = some (.int .i64 s.held) := (cell_of_block (blk_heap w1')).trans (bkA_g2 _)
              have m3 : w2.cell? ⟨w.heap.size + 1, 3, none⟩ = some (.int .i64 s.spent) := (cell_of_block (blk_heap w1')).trans (bkA_g3 _)
              have j2 : w2.frozen? ⟨w.heap.size + 1, 2, none⟩ = false := frozen_of_row w2 _ _ _ _ (blk_heap w1')
              have j3 : w2.frozen? ⟨w.heap.size + 1, 3, none⟩ = false := frozen_of_row w2 _ _ _ _ (blk_heap w1')
              have w2s := wB.size
              have gs := hg2.size
              clear hg2 wo v1 e0 e1 e2 d2 v0h voh vB vKh hmay htake m2 m3 j2 j3 n1 n2
              go_upto_region 29 with (fail)
              have t0 : blk (w2) w.heap.size = some (.cells (bkA z0B) 32 (0, 0)) := w0
              have t1 : blk (w2) (w.heap.size + 1) = some (.cells (bkA (s)) 32 (0, 0)) := w1'
              have tK : BkAt (w2) p (s) := hK2
              have tB : Below w.heap.size w (w2) := wB
              have hokn : BkOk (s) (16777216 * ((k + 1 : Nat) : Int)) := BkOk.mono hokh.out (by omega)
              clear w0 w1' hK2 wB hokh
              generalize w2 = Y at *
              have tKl := tK.lt
              have hsm := Lib.hid (q_same p (s) Y tK)
              have tKh := Lib.hid (blk_of tK)
              have hoknh := Lib.hid hokn
              clear tK hokn
              go_wp2_with fail
              refine hsm.out.mono ?_
              rintro e w5 ⟨rfl, hb5⟩
              have tBs := tB.size
              have u0 := (blk_below hb5 (by omega : w.heap.size < Y.heap.size)).trans t0
              have u1 := (blk_below hb5 (by omega : w.heap.size + 1 < Y.heap.size)).trans t1
              have uK := (blk_below hb5 tKl).trans tKh.out
              have uB := tB.trans (hb5.mono tBs)
              clear t0 t1 tB hb5
              go_wp2_with fail
              go_roundw
              case rel => exact ⟨k + 1, _, by omega, by omega, by go_num, hoknh.out, u0, u1, uK, uB⟩
              case measure => simp [intOf]; omega
        · by_cases k1 : kind = 1
          · subst k1
            have htick := Lib.hid (fun X hX => s_tick p s (16777216 * (k : Int)) oa X hX hokh.out x1.2)
            have hrt := Lib.hid (fun X => r_tick s (16777216 * (k : Int)) oa X hokh.out x1.2)
            clear k0
            go_wp2_with fail
            refine (htick.out _ vKh.out).mono ?_
            rintro e w2 ⟨rfl, hK2, hg2⟩
            have w0 : blk w2 w.heap.size = some (.cells (bkA z0B) 32 (0, 0)) := blk_of ((only_blk hg2 (by omega) (by omega)).trans (blk_heap v0h.out))
            have w1' : blk w2 (w.heap.size + 1) = some (.cells (bkA s) 32 (0, 0)) := blk_of ((only_blk hg2 (by omega) (by omega)).trans (blk_heap v1))
            have wo := (only_blk hg2 vol (by omega)).trans voh.out
            have wB := below_of_only vB hg2 vB.size (by omega)
            have n1 : w2.cell? ⟨o, 1, none⟩ = some (.int .i64 oa) := by rw [cell_of_block wo]; rfl
            have n2 : w2.cell? ⟨o, 2, none⟩ = some (.int .i64 ob) := by rw [cell_of_block wo]; rfl
            have m2 : w2.cell? ⟨w.heap.size + 1, 2, none⟩ = some (.int .i64 s.held) := (cell_of_block (blk_heap w1')).trans (bkA_g2 _)
            have m3 : w2.cell? ⟨w.heap.size + 1, 3, none⟩ = some (.int .i64 s.spent) := (cell_of_block (blk_heap w1')).trans (bkA_g3 _)
            have j2 : w2.frozen? ⟨w.heap.size + 1, 2, none⟩ = false := frozen_of_row w2 _ _ _ _ (blk_heap w1')
            have j3 : w2.frozen? ⟨w.heap.size + 1, 3, none⟩ = false := frozen_of_row w2 _ _ _ _ (blk_heap w1')
            have w2s := wB.size
            have gs := hg2.size
            clear hg2 wo v1 e0 e1 e2 d2 v0h voh vB vKh m2 m3 j2 j3 htick
            have hK2h := Lib.hid hK2
            clear hK2
            go_wp2_with fail
            refine (hrt.out _).mono ?_
            rintro e w3 ⟨rfl, hb3⟩
            have hK2l := (hK2h.out).lt
            have z0 := (blk_below hb3 (by omega : w.heap.size < w2.heap.size)).trans w0
            have z1 := (blk_below hb3 (by omega : w.heap.size + 1 < w2.heap.size)).trans w1'
            have zK : BkAt w3 p (bkTick s oa) := (hb3.block p hK2l).trans hK2h.out
            have zB := wB.trans (hb3.mono w2s)
            have w3s := hb3.size
            have zKh := Lib.hid zK
            clear w0 w1' hb3 hK2h hrt n1 n2 wB zK
            go_upto_region 29 with (fail)
            have zK := zKh.out
            have t0 : blk (w3.setRow (w.heap.size + 1) (bkA (bkTick s oa))) w.heap.size = some (.cells (bkA z0B) 32 (0, 0)) := by rw [blk_setRow_if, if_neg (by omega)]; exact z0
            have t1 : blk (w3.setRow (w.heap.size + 1) (bkA (bkTick s oa))) (w.heap.size + 1) = some (.cells (bkA (bkTick s oa)) 32 (0, 0)) := by rw [blk_setRow_if, if_pos rfl, z1, rowPut_some]
            have tK : BkAt (w3.setRow (w.heap.size + 1) (bkA (bkTick s oa))) p (bkTick s oa) := (setRow_other _ _ _ _ hne).trans zK
            have tB : Below w.heap.size w (w3.setRow (w.heap.size + 1) (bkA (bkTick s oa))) := below_setRow zB (by omega) _
            have hokn : BkOk (bkTick s oa) (16777216 * ((k + 1 : Nat) : Int)) := BkOk.mono (bkTick_ok s _ oa hokh.out) (by omega)
            clear z0 z1 zK zKh zB hokh
            generalize World.setRow w3 _ _ = Y at *
            have tKl := tK.lt
            have hsm := Lib.hid (q_same p (bkTick s oa) Y tK)
            have tKh := Lib.hid (blk_of tK)
            have hoknh := Lib.hid hokn
            clear tK hokn
            go_wp2_with fail
            refine hsm.out.mono ?_
            rintro e w5 ⟨rfl, hb5⟩
            have tBs := tB.size
            have u0 := (blk_below hb5 (by omega : w.heap.size < Y.heap.size)).trans t0
            have u1 := (blk_below hb5 (by omega : w.heap.size + 1 < Y.heap.size)).trans t1
            have uK := (blk_below hb5 tKl).trans tKh.out
            have uB := tB.trans (hb5.mono tBs)
            clear t0 t1 tB hb5
            go_wp2_with fail
            go_roundw
            case rel => exact ⟨k + 1, _, by omega, by omega, by go_num, hoknh.out, u0, u1, uK, uB⟩
            case measure => simp [intOf]; omega
          · by_cases k2 : kind = 2
            · subst k2
              have hright := Lib.hid (fun X => r_right oa ob X)
              have hch := Lib.hid (fun X hX => s_change p s oa ob X hX)
              clear k0 k1
              cases hr : bkRight oa ob
              · have ee : bkErr oa ob = 1 := by unfold bkErr; rw [hr]; rfl
                have ec : bkChange s oa ob = s := by unfold bkChange; rw [hr]; rfl
                rw [hr] at hright
                rw [ee, ec] at hch
                clear hr ee ec
                go_wp2_with fail
                refine (hright.out _).mono ?_
                rintro e w' ⟨rfl, rfl⟩
                go_wp2_with fail
                refine (hch.out _ vKh.out).mono ?_
                rintro e w2 ⟨rfl, hK2, hg2⟩
                have w0 : blk w2 w.heap.size = some (.cells (bkA z0B) 32 (0, 0)) := blk_of ((only_blk hg2 (by omega) (by omega)).trans (blk_heap v0h.out))
                have w1' : blk w2 (w.heap.size + 1) = some (.cells (bkA s) 32 (0, 0)) := blk_of ((only_blk hg2 (by omega) (by omega)).trans (blk_heap v1))
                have wo := (only_blk hg2 vol (by omega)).trans voh.out
                have wB := below_of_only vB hg2 vB.size (by omega)
                have n1 : w2.cell? ⟨o, 1, none⟩ = some (.int .i64 oa) := by rw [cell_of_block wo]; rfl
                have n2 : w2.cell? ⟨o, 2, none⟩ = some (.int .i64 ob) := by rw [cell_of_block wo]; rfl
                have m2 : w2.cell? ⟨w.heap.size + 1, 2, none⟩ = some (.int .i64 s.held) := (cell_of_block (blk_heap w1')).trans (bkA_g2 _)
                have m3 : w2.cell? ⟨w.heap.size + 1, 3, none⟩ = some (.int .i64 s.spent) := (cell_of_block (blk_heap w1')).trans (bkA_g3 _)
                have j2 : w2.frozen? ⟨w.heap.size + 1, 2, none⟩ = false := frozen_of_row w2 _ _ _ _ (blk_heap w1')
                have j3 : w2.frozen? ⟨w.heap.size + 1, 3, none⟩ = false := frozen_of_row w2 _ _ _ _ (blk_heap w1')
                have w2s := wB.size
                have gs := hg2.size
                clear hg2 wo v1 e0 e1 e2 d2 v0h voh vB vKh m2 m3 j2 j3 n1 n2 hright hch
                go_upto_region 29 with (fail)
                have t0 : blk (w2) w.heap.size = some (.cells (bkA z0B) 32 (0, 0)) := w0
                have t1 : blk (w2) (w.heap.size + 1) = some (.cells (bkA (s)) 32 (0, 0)) := w1'
                have tK : BkAt (w2) p (s) := hK2
                have tB : Below w.heap.size w (w2) := wB
                have hokn : BkOk (s) (16777216 * ((k + 1 : Nat) : Int)) := BkOk.mono hokh.out (by omega)
                clear w0 w1' hK2 wB hokh
                generalize w2 = Y at *
                have tKl := tK.lt
                have hsm := Lib.hid (q_same p (s) Y tK)
                have tKh := Lib.hid (blk_of tK)
                have hoknh := Lib.hid hokn
                clear tK hokn
                go_wp2_with fail
                refine hsm.out.mono ?_
                rintro e w5 ⟨rfl, hb5⟩
                have tBs := tB.size
                have u0 := (blk_below hb5 (by omega : w.heap.size < Y.heap.size)).trans t0
                have u1 := (blk_below hb5 (by omega : w.heap.size + 1 < Y.heap.size)).trans t1
                have uK := (blk_below hb5 tKl).trans tKh.out
                have uB := tB.trans (hb5.mono tBs)
                clear t0 t1 tB hb5
                go_wp2_with fail
                go_roundw
                case rel => exact ⟨k + 1, _, by omega, by omega, by go_num, hoknh.out, u0, u1, uK, uB⟩
                case measure => simp [intOf]; omega
              · have ee : bkErr oa ob = 0 := by unfold bkErr; rw [hr]; rfl
                have hok2 := Lib.hid (BkOk.mono (bkChange_ok s _ oa ob hokh.out) (show 16777216 * (k : Int) ≤ 16777216 * ((k + 1 : Nat) : Int) by omega))
                by_cases hle : s.held ≤ ob
                · have ec : bkChange s oa ob = { s with rate := oa, burst := ob, held := s.held } := by unfold bkChange; rw [hr, if_pos rfl, if_pos hle]
                  rw [hr] at hright
                  rw [ee, ec] at hch
                  rw [ec] at hok2
                  clear hr ee ec
                  go_wp2_with fail
                  refine (hright.out _).mono ?_
                  rintro e w' ⟨rfl, rfl⟩
                  go_wp2_with fail
                  refine (hch.out _ vKh.out).mono ?_
                  rintro e w2 ⟨rfl, hK2, hg2⟩
                  have w0 : blk w2 w.heap.size = some (.cells (bkA z0B) 32 (0, 0)) := blk_of ((only_blk hg2 (by omega) (by omega)).trans (blk_heap v0h.out))
                  have w1' : blk w2 (w.heap.size + 1) = some (.cells (bkA s) 32 (0, 0)) := blk_of ((only_blk hg2 (by omega) (by omega)).trans (blk_heap v1))
                  have wo := (only_blk hg2 vol (by omega)).trans voh.out
                  have wB := below_of_only vB hg2 vB.size (by omega)
                  have n1 : w2.cell? ⟨o, 1, none⟩ = some (.int .i64 oa) := by rw [cell_of_block wo]; rfl
                  have n2 : w2.cell? ⟨o, 2, none⟩ = some (.int .i64 ob) := by rw [cell_of_block wo]; rfl
                  have m2 : w2.cell? ⟨w.heap.size + 1, 2, none⟩ = some (.int .i64 s.held) := (cell_of_block (blk_heap w1')).trans (bkA_g2 _)
                  have m3 : w2.cell? ⟨w.heap.size + 1, 3, none⟩ = some (.int .i64 s.spent) := (cell_of_block (blk_heap w1')).trans (bkA_g3 _)
                  have j2 : w2.frozen? ⟨w.heap.size + 1, 2, none⟩ = false := frozen_of_row w2 _ _ _ _ (blk_heap w1')
                  have j3 : w2.frozen? ⟨w.heap.size + 1, 3, none⟩ = false := frozen_of_row w2 _ _ _ _ (blk_heap w1')
                  have w2s := wB.size
                  have gs := hg2.size
                  have m0 : w2.cell? ⟨w.heap.size + 1, 0, none⟩ = some (.int .i64 s.rate) := (cell_of_block (blk_heap w1')).trans (bkA_g0 _)
                  have m1 : w2.cell? ⟨w.heap.size + 1, 1, none⟩ = some (.int .i64 s.burst) := (cell_of_block (blk_heap w1')).trans (bkA_g1 _)
                  have j0 : w2.frozen? ⟨w.heap.size + 1, 0, none⟩ = false := frozen_of_row w2 _ _ _ _ (blk_heap w1')
                  have j1 : w2.frozen? ⟨w.heap.size + 1, 1, none⟩ = false := frozen_of_row w2 _ _ _ _ (blk_heap w1')
                  have w0h := Lib.hid w0
                  have w1h := Lib.hid w1'
                  have hK2h := Lib.hid hK2
                  clear hg2 wo v1 e0 e1 e2 d2 v0h voh vB vKh m3 j3 hright hch w0 w1' hK2
                  go_upto_region 28 with (fail)
                  go_region
                  have w0 := w0h.out
                  have w1' := w1h.out
                  have hK2 := hK2h.out
                  go_upto_region 29 with (fail)
                  have t0 : blk ((((w2.setCell ⟨w.heap.size + 1, 0, none⟩ (.int .i64 oa)).setCell ⟨w.heap.size + 1, 1, none⟩ (.int .i64 ob)).setCell ⟨w.heap.size + 1, 2, none⟩ (.int .i64 s.held)).drew) w.heap.size = some (.cells (bkA z0B) 32 (0, 0)) := by rw [blk_drew_at, blk_setCell_if, if_neg (by omega), blk_setCell_if, if_neg (by omega), blk_setCell_if, if_neg (by omega)]; exact w0
                  have t1 : blk ((((w2.setCell ⟨w.heap.size + 1, 0, none⟩ (.int .i64 oa)).setCell ⟨w.heap.size + 1, 1, none⟩ (.int .i64 ob)).setCell ⟨w.heap.size + 1, 2, none⟩ (.int .i64 s.held)).drew) (w.heap.size + 1) = some (.cells (bkA ({ s with rate := oa, burst := ob, held := s.held })) 32 (0, 0)) := by rw [blk_drew_at, blk_setCell_if, if_pos rfl, blk_setCell_if, if_pos rfl, blk_setCell_if, if_pos rfl, w1', cellPut_some, bkA_set0, cellPut_some, bkA_set1, cellPut_some, bkA_set2]
                  have tK : BkAt ((((w2.setCell ⟨w.heap.size + 1, 0, none⟩ (.int .i64 oa)).setCell ⟨w.heap.size + 1, 1, none⟩ (.int .i64 ob)).setCell ⟨w.heap.size + 1, 2, none⟩ (.int .i64 s.held)).drew) p ({ s with rate := oa, burst := ob, held := s.held }) := blk_drew ((heap_setCell_other _ _ _ _ hne).trans ((heap_setCell_other _ _ _ _ hne).trans ((heap_setCell_other _ _ _ _ hne).trans hK2)))
                  have tB : Below w.heap.size w ((((w2.setCell ⟨w.heap.size + 1, 0, none⟩ (.int .i64 oa)).setCell ⟨w.heap.size + 1, 1, none⟩ (.int .i64 ob)).setCell ⟨w.heap.size + 1, 2, none⟩ (.int .i64 s.held)).drew) := below_drewN (((wB.setCell (p := ⟨w.heap.size + 1, 0, none⟩) (by show _ ≤ w.heap.size + 1; omega) _).setCell (p := ⟨w.heap.size + 1, 1, none⟩) (by show _ ≤ w.heap.size + 1; omega) _).setCell (p := ⟨w.heap.size + 1, 2, none⟩) (by show _ ≤ w.heap.size + 1; omega) _) 1
                  have hokn : BkOk ({ s with rate := oa, burst := ob, held := s.held }) (16777216 * ((k + 1 : Nat) : Int)) := hok2.out
                  clear w0 w1' hK2 w0h w1h hK2h wB hok2 hokh m0 m1 m2 j0 j1 j2 n1 n2
                  generalize World.drew _ = Y at *
                  have tKl := tK.lt
                  have hsm := Lib.hid (q_same p ({ s with rate := oa, burst := ob, held := s.held }) Y tK)
                  have tKh := Lib.hid (blk_of tK)
                  have hoknh := Lib.hid hokn
                  clear tK hokn
                  go_wp2_with fail
                  refine hsm.out.mono ?_
                  rintro e w5 ⟨rfl, hb5⟩
                  have tBs := tB.size
                  have u0 := (blk_below hb5 (by omega : w.heap.size < Y.heap.size)).trans t0
                  have u1 := (blk_below hb5 (by omega : w.heap.size + 1 < Y.heap.size)).trans t1
                  have uK := (blk_below hb5 tKl).trans tKh.out
                  have uB := tB.trans (hb5.mono tBs)
                  clear t0 t1 tB hb5
                  go_wp2_with fail
                  go_roundw
                  case rel => exact ⟨k + 1, _, by omega, by omega, by go_num, hoknh.out, u0, u1, uK, uB⟩
                  case measure => simp [intOf]; omega
                · have ec : bkChange s oa ob = { s with rate := oa, burst := ob, held := ob } := by unfold bkChange; rw [hr, if_pos rfl, if_neg hle]
                  rw [hr] at hright
                  rw [ee, ec] at hch
                  rw [ec] at hok2
                  clear hr ee ec
                  go_wp2_with fail
                  refine (hright.out _).mono ?_
                  rintro e w' ⟨rfl, rfl⟩
                  go_wp2_with fail
                  refine (hch.out _ vKh.out).mono ?_
                  rintro e w2 ⟨rfl, hK2, hg2⟩
                  have w0 : blk w2 w.heap.size = some (.cells (bkA z0B) 32 (0, 0)) := blk_of ((only_blk hg2 (by omega) (by omega)).trans (blk_heap v0h.out))
                  have w1' : blk w2 (w.heap.size + 1) = some (.cells (bkA s) 32 (0, 0)) := blk_of ((only_blk hg2 (by omega) (by omega)).trans (blk_heap v1))
                  have wo := (only_blk hg2 vol (by omega)).trans voh.out
                  have wB := below_of_only vB hg2 vB.size (by omega)
                  have n1 : w2.cell? ⟨o, 1, none⟩ = some (.int .i64 oa) := by rw [cell_of_block wo]; rfl
                  have n2 : w2.cell? ⟨o, 2, none⟩ = some (.int .i64 ob) := by rw [cell_of_block wo]; rfl
                  have m2 : w2.cell? ⟨w.heap.size + 1, 2, none⟩ = some (.int .i64 s.held) := (cell_of_block (blk_heap w1')).trans (bkA_g2 _)
                  have m3 : w2.cell? ⟨w.heap.size + 1, 3, none⟩ = some (.int .i64 s.spent) := (cell_of_block (blk_heap w1')).trans (bkA_g3 _)
                  have j2 : w2.frozen? ⟨w.heap.size + 1, 2, none⟩ = false := frozen_of_row w2 _ _ _ _ (blk_heap w1')
                  have j3 : w2.frozen? ⟨w.heap.size + 1, 3, none⟩ = false := frozen_of_row w2 _ _ _ _ (blk_heap w1')
                  have w2s := wB.size
                  have gs := hg2.size
                  have m0 : w2.cell? ⟨w.heap.size + 1, 0, none⟩ = some (.int .i64 s.rate) := (cell_of_block (blk_heap w1')).trans (bkA_g0 _)
                  have m1 : w2.cell? ⟨w.heap.size + 1, 1, none⟩ = some (.int .i64 s.burst) := (cell_of_block (blk_heap w1')).trans (bkA_g1 _)
                  have j0 : w2.frozen? ⟨w.heap.size + 1, 0, none⟩ = false := frozen_of_row w2 _ _ _ _ (blk_heap w1')
                  have j1 : w2.frozen? ⟨w.heap.size + 1, 1, none⟩ = false := frozen_of_row w2 _ _ _ _ (blk_heap w1')
                  have w0h := Lib.hid w0
                  have w1h := Lib.hid w1'
                  have hK2h := Lib.hid hK2
                  clear hg2 wo v1 e0 e1 e2 d2 v0h voh vB vKh m3 j3 hright hch w0 w1' hK2
                  go_upto_region 28 with (fail)
                  go_region
                  have w0 := w0h.out
                  have w1' := w1h.out
                  have hK2 := hK2h.out
                  go_upto_region 29 with (fail)
                  have t0 : blk ((((w2.setCell ⟨w.heap.size + 1, 0, none⟩ (.int .i64 oa)).setCell ⟨w.heap.size + 1, 1, none⟩ (.int .i64 ob)).setCell ⟨w.heap.size + 1, 2, none⟩ (.int .i64 ob)).drew) w.heap.size = some (.cells (bkA z0B) 32 (0, 0)) := by rw [blk_drew_at, blk_setCell_if, if_neg (by omega), blk_setCell_if, if_neg (by omega), blk_setCell_if, if_neg (by omega)]; exact w0
                  have t1 : blk ((((w2.setCell ⟨w.heap.size + 1, 0, none⟩ (.int .i64 oa)).setCell ⟨w.heap.size + 1, 1, none⟩ (.int .i64 ob)).setCell ⟨w.heap.size + 1, 2, none⟩ (.int .i64 ob)).drew) (w.heap.size + 1) = some (.cells (bkA ({ s with rate := oa, burst := ob, held := ob })) 32 (0, 0)) := by rw [blk_drew_at, blk_setCell_if, if_pos rfl, blk_setCell_if, if_pos rfl, blk_setCell_if, if_pos rfl, w1', cellPut_some, bkA_set0, cellPut_some, bkA_set1, cellPut_some, bkA_set2]
                  have tK : BkAt ((((w2.setCell ⟨w.heap.size + 1, 0, none⟩ (.int .i64 oa)).setCell ⟨w.heap.size + 1, 1, none⟩ (.int .i64 ob)).setCell ⟨w.heap.size + 1, 2, none⟩ (.int .i64 ob)).drew) p ({ s with rate := oa, burst := ob, held := ob }) := blk_drew ((heap_setCell_other _ _ _ _ hne).trans ((heap_setCell_other _ _ _ _ hne).trans ((heap_setCell_other _ _ _ _ hne).trans hK2)))
                  have tB : Below w.heap.size w ((((w2.setCell ⟨w.heap.size + 1, 0, none⟩ (.int .i64 oa)).setCell ⟨w.heap.size + 1, 1, none⟩ (.int .i64 ob)).setCell ⟨w.heap.size + 1, 2, none⟩ (.int .i64 ob)).drew) := below_drewN (((wB.setCell (p := ⟨w.heap.size + 1, 0, none⟩) (by show _ ≤ w.heap.size + 1; omega) _).setCell (p := ⟨w.heap.size + 1, 1, none⟩) (by show _ ≤ w.heap.size + 1; omega) _).setCell (p := ⟨w.heap.size + 1, 2, none⟩) (by show _ ≤ w.heap.size + 1; omega) _) 1
                  have hokn : BkOk ({ s with rate := oa, burst := ob, held := ob }) (16777216 * ((k + 1 : Nat) : Int)) := hok2.out
                  clear w0 w1' hK2 w0h w1h hK2h wB hok2 hokh m0 m1 m2 j0 j1 j2 n1 n2
                  generalize World.drew _ = Y at *
                  have tKl := tK.lt
                  have hsm := Lib.hid (q_same p ({ s with rate := oa, burst := ob, held := ob }) Y tK)
                  have tKh := Lib.hid (blk_of tK)
                  have hoknh := Lib.hid hokn
                  clear tK hokn
                  go_wp2_with fail
                  refine hsm.out.mono ?_
                  rintro e w5 ⟨rfl, hb5⟩
                  have tBs := tB.size
                  have u0 := (blk_below hb5 (by omega : w.heap.size < Y.heap.size)).trans t0
                  have u1 := (blk_below hb5 (by omega : w.heap.size + 1 < Y.heap.size)).trans t1
                  have uK := (blk_below hb5 tKl).trans tKh.out
                  have uB := tB.trans (hb5.mono tBs)
                  clear t0 t1 tB hb5
                  go_wp2_with fail
                  go_roundw
                  case rel => exact ⟨k + 1, _, by omega, by omega, by go_num, hoknh.out, u0, u1, uK, uB⟩
                  case measure => simp [intOf]; omega
            · have f0 : (kind == 0) = false := by simp; exact k0
              have f1 : (kind == 1) = false := by simp; exact k1
              have f2 : (kind == 2) = false := by simp; exact k2
              have hokn := Lib.hid (BkOk.mono hokh.out (show 16777216 * (k : Int) ≤ 16777216 * ((k + 1 : Nat) : Int) by omega))
              have v1h := Lib.hid v1
              clear v1 d2 voh k0 k1 k2
              go_wp2_with fail
              go_roundw
              case rel => exact ⟨k + 1, s, by omega, by omega, by go_num, hokn.out, v0h.out, v1h.out, blk_of vKh.out, vB⟩
              case measure => simp [intOf]; omega
      · have hd2 : decide ((k : Int) < 100) = false := decide_eq_false (by omega)
        have hfin := Lib.hid (BkOk.mono hok (show 16777216 * (k : Int) ≤ 1677721600 by omega))
        have rKh := Lib.hid rK
        have hBs := hB.size
        clear rK hok
        go_upto_region 31 with (fail)
        go_region
        all_goals
          go_wp2_with fail
          refine bodyPost_ret (v := .tuple #[.pointer (some ⟨p, 0, none⟩), .agg (bkA s), .bool true]) (results_tmp_row_tmp rfl _ _ w.heap.size 32 (bkA s) (0, 0) _ _ _ rfl rfl rfl ?_ Try.underlying32 rfl (by rw [rbk_info5, bkA_size])) rfl ⟨s, p, hfin.out, rfl, (setRow_other _ _ _ _ hne0).trans (show wr.drew.heap[p]? = _ from (blk_heap rKh.out : wr.heap[p]? = _)), by omega, below_setRow (below_drewN hB 1) (Nat.le_refl _) _⟩
          exact setRow_heap _ _ _ _ _ _ (show wr.drew.heap[w.heap.size]? = _ from (blk_heap r0 : wr.heap[w.heap.size]? = _))
    · have hd1 : decide ((k : Int) < (len : Int)) = false := decide_eq_false (by omega)
      have hfin := Lib.hid (BkOk.mono hok (show 16777216 * (k : Int) ≤ 1677721600 by omega))
      have rKh := Lib.hid rK
      have hBs := hB.size
      clear rK hok
      go_upto_region 31 with (fail)
      go_region
      all_goals
        go_wp2_with fail
        refine bodyPost_ret (v := .tuple #[.pointer (some ⟨p, 0, none⟩), .agg (bkA s), .bool true]) (results_tmp_row_tmp rfl _ _ w.heap.size 32 (bkA s) (0, 0) _ _ _ rfl rfl rfl ?_ Try.underlying32 rfl (by rw [rbk_info5, bkA_size])) rfl ⟨s, p, hfin.out, rfl, (setRow_other _ _ _ _ hne0).trans (show wr.drew.heap[p]? = _ from (blk_heap rKh.out : wr.heap[p]? = _)), by omega, below_setRow (below_drewN hB 1) (Nat.le_refl _) _⟩
        exact setRow_heap _ _ _ _ _ _ (show wr.drew.heap[w.heap.size]? = _ from (blk_heap r0 : wr.heap[w.heap.size]? = _))
end Go.Proofs.Ytchpiiccdoejdaa
