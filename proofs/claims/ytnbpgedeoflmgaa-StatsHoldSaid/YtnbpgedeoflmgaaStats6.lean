/- The law's awake and played of layer 13. Conditions: the slice's elements are read as the marks and trips named. -/
import Derived.Test.YtnbpgedeoflmgaaStats5
import Derived.Test.YtnbpgedeoflmgaaRec
import Derived.Deep.RegionWith
namespace Go.Proofs.Ytnbpgedeoflmgaa
open Go.RowKit
attribute [local irreducible] twZ tick8 clampZ floorZ satZ cdZ
/-- a call: a trip of so many ticks, or a mark -/
structure StOp where
  trip : Bool
  lost : Bool
  ticks : Int
def stStep (s : StS) (o : StOp) : StS := if o.trip then stTrip s o.ticks else stMark s o.lost
def foldT (g : Nat → StOp) : Nat → StS
  | 0 => z0T
  | k + 1 => stStep (foldT g k) (g k)
theorem foldT_0 (g : Nat → StOp) : foldT g 0 = z0T := rfl
theorem foldT_s (g : Nat → StOp) (k : Nat) : foldT g (k + 1) = stStep (foldT g k) (g k) := rfl
theorem foldT_ok (g : Nat → StOp) (k : Nat) : StOk (foldT g k) (k : Int) := by
  induction k with
  | zero => rw [foldT_0]; exact ⟨by decide, by decide, by decide, by decide, by decide, by decide, by decide, by decide, by decide, by decide⟩
  | succ k ih =>
    rw [foldT_s]
    unfold stStep
    have e : ((k + 1 : Nat) : Int) = (k : Int) + 1 := by omega
    rw [e]
    split
    · exact stTrip_ok _ _ _ ih
    · exact stMark_ok _ _ _ ih
/-- the slice's elements are the calls that g names -/
def OpsAt (w : World) (a : Option Addr) (len : Nat) (g : Nat → StOp) : Prop := ∀ i, i < len → ∃ b off, a = some ⟨b, off, none⟩ ∧
  w.cell? ⟨b, off + i * 3, none⟩ = some (.bool (g i).trip) ∧ w.cell? ⟨b, off + i * 3 + 1, none⟩ = some (.bool (g i).lost) ∧ w.cell? ⟨b, off + i * 3 + 2, none⟩ = some (.int .i64 (g i).ticks) ∧ I64 (g i).ticks
theorem OpsAt.below {w w' : World} {a : Option Addr} {len : Nat} {g : Nat → StOp} (h : OpsAt w a len g) (hb : Below w.heap.size w w') : OpsAt w' a len g := by
  intro i hi
  obtain ⟨b, off, ha, c0, c1, c2, c3⟩ := h i hi
  have hl := cell_block_lt c0
  exact ⟨b, off, ha, (hb.cell (p := ⟨b, off + i * 3, none⟩) hl).trans c0, (hb.cell (p := ⟨b, off + i * 3 + 1, none⟩) hl).trans c1, (hb.cell (p := ⟨b, off + i * 3 + 2, none⟩) hl).trans c2, c3⟩
theorem ops_open {w : World} {a : Option Addr} {len cap : Nat} (h : IsRec [none, none, some .i64] w a len cap) : ∃ g, OpsAt w a len g := by
  obtain ⟨f, hk, hc, _⟩ := h
  have key : ∀ i, ∃ o : StOp, i < len → f i 0 = .bool o.trip ∧ f i 1 = .bool o.lost ∧ f i 2 = .int .i64 o.ticks ∧ I64 o.ticks := by
    intro i
    by_cases hi : i < len
    · obtain ⟨t, h0⟩ := (hk i 0 none hi rfl).bool
      obtain ⟨l, h1⟩ := (hk i 1 none hi rfl).bool
      obtain ⟨n, h2, hw⟩ := (hk i 2 (some .i64) hi rfl).int
      exact ⟨⟨t, l, n⟩, fun _ => ⟨h0, h1, h2, i64_bd hw⟩⟩
    · exact ⟨⟨false, false, 0⟩, fun h => absurd h hi⟩
  refine ⟨fun i => (key i).choose, fun i hi => ?_⟩
  obtain ⟨h0, h1, h2, h3⟩ := (key i).choose_spec hi
  obtain ⟨b, off, ha, hcell⟩ := hc i hi
  refine ⟨b, off, ha, ?_, ?_, ?_, h3⟩
  · rw [← h0]; exact hcell 0 (by decide)
  · rw [← h1]; exact hcell 1 (by decide)
  · rw [← h2]; exact hcell 2 (by decide)
attribute [local irreducible] blk wLoad wLoadRes loadAns wStore wStoreRes storeAns Plain stA foldT stStep
attribute [local go_sem ↓] ld_s0 ld_r0 sto_s0 sto_r0
attribute [local go_sem] ld_s ld_r sto_s sto_r loadAns_some storeAns_some st_size5 st_plain blk_alloc_if blk_setRow_if blk_drew_at blk_drewN_at rowPut_some
def PlPost (W : World) (g : Nat → StOp) (len : Nat) (e : Ending) (W' : World) : Prop := ∃ k, k ≤ 300 ∧ k ≤ len ∧ e = .returned (.tuple #[.agg (stA (foldT g k)), .agg (stA (foldT g k)), .bool true]) ∧ Below W.heap.size W W'
theorem four_boxes (w : World) (A B C D : Obj) :
    ((((w.alloc A).alloc B).alloc C).alloc D).heap[w.heap.size]? = some A ∧ ((((w.alloc A).alloc B).alloc C).alloc D).heap[w.heap.size + 1]? = some B ∧ ((((w.alloc A).alloc B).alloc C).alloc D).heap[w.heap.size + 1 + 1]? = some C ∧ ((((w.alloc A).alloc B).alloc C).alloc D).heap[w.heap.size + 1 + 1 + 1]? = some D ∧
    ((((w.alloc A).alloc B).alloc C).alloc D).heap.size = w.heap.size + 4 ∧ Below w.heap.size w ((((w.alloc A).alloc B).alloc C).alloc D) := by
  have s1 : ∀ (u : World) (o : Obj), (u.alloc o).heap.size = u.heap.size + 1 := fun u o => by show (u.heap.push _).size = _; rw [Array.size_push]
  have z0 : ∀ (u : World) (o : Obj) (n : Nat), n = u.heap.size → (u.alloc o).heap[n]? = some o := fun u o n h => last_block0 u o n h
  refine ⟨blk_alloc (blk_alloc (blk_alloc (z0 _ _ _ rfl) _) _) _, blk_alloc (blk_alloc (z0 _ _ _ (s1 _ _).symm) _) _, blk_alloc (z0 _ _ _ (by rw [s1, s1])) _, z0 _ _ _ (by rw [s1, s1, s1]), by rw [s1, s1, s1, s1], ?_⟩
  exact ((((Below.refl _ _).alloc (Nat.le_refl _) _).alloc (by rw [s1]; omega) _).alloc (by rw [s1, s1]; omega) _).alloc (by rw [s1, s1, s1]; omega) _
theorem pl_end (wr w : World) (r0 : wr.heap[w.heap.size]? = some (.cells (stA z0T) 25 (0, 0))) (r1 : wr.heap[w.heap.size + 1]? = some (.cells (stA z0T) 26 (0, 0))) (hB : Below w.heap.size w wr) (A B : Array Value) :
    ((wr.drew.setRow w.heap.size A).setRow (w.heap.size + 1) B).heap[w.heap.size]? = some (.cells A 25 (0, 0)) ∧ ((wr.drew.setRow w.heap.size A).setRow (w.heap.size + 1) B).heap[w.heap.size + 1]? = some (.cells B 26 (0, 0)) ∧ Below w.heap.size w ((wr.drew.setRow w.heap.size A).setRow (w.heap.size + 1) B) ∧
    ((wr.drew.setRow (w.heap.size + 1) B).setRow w.heap.size A).heap[w.heap.size]? = some (.cells A 25 (0, 0)) ∧ ((wr.drew.setRow (w.heap.size + 1) B).setRow w.heap.size A).heap[w.heap.size + 1]? = some (.cells B 26 (0, 0)) ∧ Below w.heap.size w ((wr.drew.setRow (w.heap.size + 1) B).setRow w.heap.size A) := by
  have r0' : wr.drew.heap[w.heap.size]? = some (.cells (stA z0T) 25 (0, 0)) := r0
  have r1' : wr.drew.heap[w.heap.size + 1]? = some (.cells (stA z0T) 26 (0, 0)) := r1
  have hBd : Below w.heap.size w wr.drew := below_drewN hB 1
  refine ⟨?_, ?_, below_setRow (below_setRow hBd (Nat.le_refl _) _) (by omega) _, ?_, ?_, below_setRow (below_setRow hBd (by omega) _) (Nat.le_refl _) _⟩
  · rw [setRow_other _ _ _ _ (by omega)]; exact setRow_heap _ _ _ _ _ _ r0'
  · exact setRow_heap _ _ _ _ _ _ ((setRow_other _ _ _ _ (by omega)).trans r1')
  · exact setRow_heap _ _ _ _ _ _ ((setRow_other _ _ _ _ (by omega)).trans r0')
  · rw [setRow_other _ _ _ _ (by omega)]; exact setRow_heap _ _ _ _ _ _ r1'
set_option maxRecDepth 100000 in
set_option maxHeartbeats 2000000 in
theorem st_played (a : Option Addr) (len cap : Nat) (g : Nat → StOp) (w : World) (hs : OpsAt w a len g) (hn : len ≤ 9223372036854775807) :
    Calls Try.prog 8 #[.slice a len cap] w (PlPost w g len) := by
  have hz := zeroSt
  have hz2 := zeroRst
  obtain ⟨b0, b1, b2, b3, hsz, hB⟩ := four_boxes w (.cells (stA z0T) 25) (.cells (stA z0T) 26) (.cells (stA z0T) 25) (.cells (stA z0T) 26)
  have hsh := hide hs
  clear hs
  go_enter Try.func8, Try.ntmps8
  go_upto_region 3 with (fail)
  generalize World.alloc (World.alloc (World.alloc (World.alloc w _) _) _) _ = W at *
  go_wp2_with fail
  have b0h := hide b0
  have b1h := hide b1
  have b2h := hide b2
  have b3h := hide b3
  have hBh := hide hB
  clear b0 b1 b2 b3 hB hsz hz hz2
  go_loopw [7] (fun i wr => ∃ k : Nat, k ≤ len ∧ k ≤ 300 ∧ i = .int .i64 k ∧ wr.heap[w.heap.size]? = some (.cells (stA z0T) 25 (0, 0)) ∧ wr.heap[w.heap.size + 1]? = some (.cells (stA z0T) 26 (0, 0)) ∧
      StAt wr (w.heap.size + 1 + 1) (foldT g k) ∧ wr.heap[w.heap.size + 1 + 1 + 1]? = some (.cells (stA (foldT g k)) 26 (0, 0)) ∧ Below w.heap.size w wr) (fun i _ => len - (intOf i).toNat)
  case atStart => exact ⟨0, by omega, by omega, rfl, b0h.out, b1h.out, by rw [foldT_0]; exact b2h.out, by rw [foldT_0]; exact b3h.out, hBh.out⟩
  case round =>
    obtain ⟨k, hk, hk2, rfl, r0, r1, hS, hR, hB⟩ := hrel
    have hok := foldT_ok g k
    by_cases hlt : k < len
    · by_cases hlt2 : k < 300
      · obtain ⟨bb, off, rfl, c0', c1', c2', c3⟩ := hsh.out k hlt
        have hbb : bb < w.heap.size := cell_block_lt c0'
        have c0 := (hB.cell (p := ⟨bb, off + k * 3, none⟩) hbb).trans c0'
        have c1 := (hB.cell (p := ⟨bb, off + k * 3 + 1, none⟩) hbb).trans c1'
        have c2 := (hB.cell (p := ⟨bb, off + k * 3 + 2, none⟩) hbb).trans c2'
        clear c0' c1' c2'
        have hnx := hide (foldT_s g k)
        have i1 : (k : Int) < (len : Int) := by omega
        obtain ⟨x1, x2⟩ := c3
        have hmk := Lib.hid (fun W hW lost => s_mark (w.heap.size + 1 + 1) (foldT g k) k lost W hW hok (by omega))
        have htr := Lib.hid (fun W hW t => s_trip (w.heap.size + 1 + 1) (foldT g k) k t W hW hok (by omega))
        have rmk := Lib.hid (fun W lost => r_mark (foldT g k) k lost W hok (by omega))
        have rtr := Lib.hid (fun W t => r_trip (foldT g k) k t W hok (by omega))
        have hsz : w.heap.size + 4 ≤ wr.heap.size := by have := (Array.getElem?_eq_some_iff.1 hR).1; omega
        unfold stStep at hnx
        generalize foldT g k = s at *
        generalize g k = o at *
        obtain ⟨trip, lost, ticks⟩ := o
        simp only at c0 c1 c2 x1 x2 hnx
        have hSh := hide hS
        clear hS hok
        cases trip
        · simp only [Bool.false_eq_true, if_false] at hnx
          go_wp2_with fail
          refine (hmk.out _ hSh.out lost).mono ?_
          rintro e w1 ⟨rfl, hS1, hg1⟩
          have d1 := (only_cell hg1 (off + k * 3 + 1) (by omega : bb < wr.heap.size) (by omega)).trans c1
          have q6 : blk w1 (w.heap.size + 1 + 1 + 1) = some (.cells (stA s) 26 (0, 0)) := blk_of ((only_blk hg1 (by omega) (by omega)).trans hR)
          have q5 := blk_of hS1
          have q0 := blk_of ((only_blk hg1 (by omega) (by omega)).trans r0)
          have q1 := blk_of ((only_blk hg1 (by omega) (by omega)).trans r1)
          have hB1 := below_of_only hB hg1 hB.size (by omega)
          have hsz1 : w.heap.size + 4 ≤ w1.heap.size := Nat.le_trans hsz hg1.size
          clear hg1 hSh hB r0 r1 hR c0 c1 c2 hmk htr rtr hS1
          go_upto_region 10 with (fail)
          go_cut [] (fun wx => blk wx (w.heap.size + 1 + 1 + 1) = some (.cells (stA (stMark s lost)) 26 (0, 0)) ∧ blk wx (w.heap.size + 1 + 1) = some (.cells (stA (stMark s lost)) 25 (0, 0)) ∧ blk wx w.heap.size = some (.cells (stA z0T) 25 (0, 0)) ∧ blk wx (w.heap.size + 1) = some (.cells (stA z0T) 26 (0, 0)) ∧ Below w.heap.size w wx)
          case first =>
            go_region_with ((go_at_call 19; refine (rmk.out _ lost).mono ?_; rintro e w2 ⟨rfl, hb2⟩; have e6 := blk_below hb2 (show w.heap.size + 1 + 1 + 1 < w1.heap.size by omega)))
            all_goals
              go_wp2_with fail
              go_meet
              refine ⟨?_, ?_, ?_, ?_, below_setRow ((below_drewN hB1 1).trans (hb2.mono (show w.heap.size ≤ w1.heap.size by omega))) (by omega) _⟩
              · rw [blk_setRow_if, if_pos rfl, e6, blk_drew_at, q6, rowPut_some]
              · rw [blk_setRow_if, if_neg (by omega), blk_below hb2 (show w.heap.size + 1 + 1 < w1.heap.size by omega), blk_drew_at, q5]
              · rw [blk_setRow_if, if_neg (by omega), blk_below hb2 (show w.heap.size < w1.heap.size by omega), blk_drew_at, q0]
              · rw [blk_setRow_if, if_neg (by omega), blk_below hb2 (show w.heap.size + 1 < w1.heap.size by omega), blk_drew_at, q1]
          case rest =>
            obtain ⟨p6, p5, p0, p1, hBx⟩ := hcut
            have hszx := blk_lt p6
            clear q6 q5 q0 q1 hB1
            go_wp2_with fail
            refine (q_same _ _).mono ?_
            rintro e w3 ⟨rfl, hb3⟩
            have h6 := (blk_below hb3 hszx).trans p6
            have h5 := (blk_below hb3 (by omega : w.heap.size + 1 + 1 < wc.heap.size)).trans p5
            have h0 := (blk_below hb3 (by omega : w.heap.size < wc.heap.size)).trans p0
            have h1 := (blk_below hb3 (by omega : w.heap.size + 1 < wc.heap.size)).trans p1
            have hB3 := hBx.trans (hb3.mono (by omega))
            clear p6 p5 p0 p1 hBx hb3
            go_wp2_with fail
            go_roundw
            case rel =>
              refine ⟨k + 1, by omega, by omega, by go_num, blk_heap h0, blk_heap h1, ?_, ?_, hB3⟩
              · rw [hnx.out]; exact blk_heap h5
              · rw [hnx.out]; exact blk_heap h6
            case measure => simp [intOf]; omega
        · simp only [if_true] at hnx
          go_wp2_with fail
          refine (htr.out _ hSh.out ticks).mono ?_
          rintro e w1 ⟨rfl, hS1, hg1⟩
          have d1 := (only_cell hg1 (off + k * 3 + 2) (by omega : bb < wr.heap.size) (by omega)).trans c2
          have q6 : blk w1 (w.heap.size + 1 + 1 + 1) = some (.cells (stA s) 26 (0, 0)) := blk_of ((only_blk hg1 (by omega) (by omega)).trans hR)
          have q5 := blk_of hS1
          have q0 := blk_of ((only_blk hg1 (by omega) (by omega)).trans r0)
          have q1 := blk_of ((only_blk hg1 (by omega) (by omega)).trans r1)
          have hB1 := below_of_only hB hg1 hB.size (by omega)
          have hsz1 : w.heap.size + 4 ≤ w1.heap.size := Nat.le_trans hsz hg1.size
          clear hg1 hSh hB r0 r1 hR c0 c1 c2 hmk htr rmk hS1
          go_upto_region 8 with (fail)
          go_cut [] (fun wx => blk wx (w.heap.size + 1 + 1 + 1) = some (.cells (stA (stTrip s ticks)) 26 (0, 0)) ∧ blk wx (w.heap.size + 1 + 1) = some (.cells (stA (stTrip s ticks)) 25 (0, 0)) ∧ blk wx w.heap.size = some (.cells (stA z0T) 25 (0, 0)) ∧ blk wx (w.heap.size + 1) = some (.cells (stA z0T) 26 (0, 0)) ∧ Below w.heap.size w wx)
          case first =>
            go_region_with ((go_at_call 18; refine (rtr.out _ ticks).mono ?_; rintro e w2 ⟨rfl, hb2⟩; have e6 := blk_below hb2 (show w.heap.size + 1 + 1 + 1 < w1.heap.size by omega)))
            all_goals
              go_wp2_with fail
              go_meet
              refine ⟨?_, ?_, ?_, ?_, below_setRow ((below_drewN hB1 1).trans (hb2.mono (show w.heap.size ≤ w1.heap.size by omega))) (by omega) _⟩
              · rw [blk_setRow_if, if_pos rfl, e6, blk_drew_at, q6, rowPut_some]
              · rw [blk_setRow_if, if_neg (by omega), blk_below hb2 (show w.heap.size + 1 + 1 < w1.heap.size by omega), blk_drew_at, q5]
              · rw [blk_setRow_if, if_neg (by omega), blk_below hb2 (show w.heap.size < w1.heap.size by omega), blk_drew_at, q0]
              · rw [blk_setRow_if, if_neg (by omega), blk_below hb2 (show w.heap.size + 1 < w1.heap.size by omega), blk_drew_at, q1]
          case rest =>
            obtain ⟨p6, p5, p0, p1, hBx⟩ := hcut
            have hszx := blk_lt p6
            clear q6 q5 q0 q1 hB1
            go_wp2_with fail
            refine (q_same _ _).mono ?_
            rintro e w3 ⟨rfl, hb3⟩
            have h6 := (blk_below hb3 hszx).trans p6
            have h5 := (blk_below hb3 (by omega : w.heap.size + 1 + 1 < wc.heap.size)).trans p5
            have h0 := (blk_below hb3 (by omega : w.heap.size < wc.heap.size)).trans p0
            have h1 := (blk_below hb3 (by omega : w.heap.size + 1 < wc.heap.size)).trans p1
            have hB3 := hBx.trans (hb3.mono (by omega))
            clear p6 p5 p0 p1 hBx hb3
            go_wp2_with fail
            go_roundw
            case rel =>
              refine ⟨k + 1, by omega, by omega, by go_num, blk_heap h0, blk_heap h1, ?_, ?_, hB3⟩
              · rw [hnx.out]; exact blk_heap h5
              · rw [hnx.out]; exact blk_heap h6
            case measure => simp [intOf]; omega
      · have hd2 : decide ((k : Int) < 300) = false := decide_eq_false (by omega)
        go_upto_region 13 with (fail)
        have k0 := blk_of r0
        have k1 := blk_of r1
        have k5 := blk_of hS
        have k6 := blk_of hR
        have hfin := Lib.hid (pl_end wr w r0 r1 hB)
        clear r0 r1 hS hR hB hok
        go_region
        all_goals
          go_wp2_with fail
          refine bodyPost_ret (v := .tuple #[.agg (stA (foldT g k)), .agg (stA (foldT g k)), .bool true]) ?_ rfl ?_
          · exact results_row2_tmp rfl _ _ w.heap.size 25 (stA (foldT g k)) (0, 0) _ (w.heap.size + 1) 26 (stA (foldT g k)) (0, 0) _ (.bool true) rfl rfl rfl (by first | exact (hfin.out _ _).1 | exact (hfin.out _ _).2.2.2.1) (by first | exact (hfin.out _ _).2.1 | exact (hfin.out _ _).2.2.2.2.1) Try.underlying25 rfl (by rw [sst_info5, st_size5]) Try.underlying26 rfl (by rw [rst_info5, st_size5])
          · first | exact ⟨k, hk2, hk, rfl, (hfin.out _ _).2.2.1⟩ | exact ⟨k, hk2, hk, rfl, (hfin.out _ _).2.2.2.2.2⟩
    · have hd1 : decide ((k : Int) < (len : Int)) = false := decide_eq_false (by omega)
      go_upto_region 13 with (fail)
      have k0 := blk_of r0
      have k1 := blk_of r1
      have k5 := blk_of hS
      have k6 := blk_of hR
      have hfin := Lib.hid (pl_end wr w r0 r1 hB)
      clear r0 r1 hS hR hB hok
      go_region
      all_goals
        go_wp2_with fail
        refine bodyPost_ret (v := .tuple #[.agg (stA (foldT g k)), .agg (stA (foldT g k)), .bool true]) ?_ rfl ?_
        · exact results_row2_tmp rfl _ _ w.heap.size 25 (stA (foldT g k)) (0, 0) _ (w.heap.size + 1) 26 (stA (foldT g k)) (0, 0) _ (.bool true) rfl rfl rfl (by first | exact (hfin.out _ _).1 | exact (hfin.out _ _).2.2.2.1) (by first | exact (hfin.out _ _).2.1 | exact (hfin.out _ _).2.2.2.2.1) Try.underlying25 rfl (by rw [sst_info5, st_size5]) Try.underlying26 rfl (by rw [rst_info5, st_size5])
        · first | exact ⟨k, hk2, hk, rfl, (hfin.out _ _).2.2.1⟩ | exact ⟨k, hk2, hk, rfl, (hfin.out _ _).2.2.2.2.2⟩
end Go.Proofs.Ytnbpgedeoflmgaa
