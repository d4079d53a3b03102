/- The law's played of layer 8. Conditions: the slice reads as the list named. -/
import Derived.Test.YtickioeepicgcaaSeqAwake
namespace Go.Proofs.Ytickioeepicgcaa
open Go.RowKit
attribute [local irreducible] behindZ bw goneM sqLost sqTake sqHoles sqHas sqA rkA
theorem sq_size6 (s : SqS) : (sqA s).size = 6 := by unfold sqA; rfl
theorem sq_plain (s : SqS) : Plain (sqA s) := by unfold Plain sqA; simp [Value.oneCell']
theorem rk_plain (s : SqS) : Plain (rkA s) := rkA_one s
theorem sq_info6 : (Try.prog.info? 27).map (·.size) = some 6 := by kernel_rfl
theorem ld_sq0 (v : Value) : Instr.loadAt 27 v = wLoad 27 v := by unfold wLoad; rfl
theorem ld_sq (w : World) (b : Nat) : (wLoad 27 (.pointer (some ⟨b, 0, none⟩))).run Try.prog w = loadAns 6 w (blk w b) (wLoadRes Try.prog 27 b w) := run_wLoad Try.underlying27 rfl sq_info6 w b
theorem st_sq0 (p x : Value) : Instr.storeAt 27 p x = wStore 27 p x := by unfold wStore; rfl
theorem st_sq (w : World) (b : Nat) (C : Array Value) : (wStore 27 (.pointer (some ⟨b, 0, none⟩)) (.agg C)).run Try.prog w = storeAns 6 w b C (blk w b) (wStoreRes Try.prog 27 b C w) := run_wStore sq_info6 w b C
theorem st_rk0 (p x : Value) : Instr.storeAt 30 p x = wStore 30 p x := by unfold wStore; rfl
theorem st_rk (w : World) (b : Nat) (C : Array Value) : (wStore 30 (.pointer (some ⟨b, 0, none⟩)) (.agg C)).run Try.prog w = storeAns 69 w b C (blk w b) (wStoreRes Try.prog 30 b C w) := run_wStore rk_info69 w b C
attribute [local irreducible] blk wLoad wLoadRes loadAns wStore wStoreRes storeAns Plain
attribute [local go_sem ↓] ld_rk0 ld_sq0 st_sq0 st_rk0
attribute [local go_sem] ld_rk loadAns_some rk_size69 ld_sq st_sq st_rk storeAns_some sq_size6 sq_plain rk_plain blk_alloc_if blk_setRow_if blk_drew_at blk_drewN_at rowPut_some
/-- the state behind the first k numbers -/
def foldS (l : List Nat) : Nat → SqS
  | 0 => z0S
  | k + 1 => (sqTake (foldS l k) ((l[k]?.getD 0 : Nat) : Int)).1
theorem foldS_0 (l : List Nat) : foldS l 0 = z0S := rfl
theorem foldS_s (l : List Nat) (k x : Nat) (h : l[k]? = some x) : foldS l (k + 1) = (sqTake (foldS l k) (x : Int)).1 := by simp only [foldS]; rw [h]; rfl
theorem foldS_ok (l : List Nat) (hl : ∀ x ∈ l, x < 4294967296) (k : Nat) (hk : k ≤ l.length) : SqOk (foldS l k) (2147483648 * (k : Int)) := by
  induction k with
  | zero => exact z0_ok
  | succ k ih =>
    obtain ⟨x, hx⟩ : ∃ x, l[k]? = some x := ⟨_, List.getElem?_eq_getElem (by omega)⟩
    rw [foldS_s l k x hx]
    have h := sqTake_ok (foldS l k) _ (x : Int) (ih (by omega)) (by omega) (by have := hl x (List.mem_of_getElem? hx); omega)
    have e : 2147483648 * ((k + 1 : Nat) : Int) = 2147483648 * (k : Int) + 2147483648 := by omega
    rw [e]; exact h
attribute [local irreducible] foldS
def PlPost (W : World) (l : List Nat) (e : Ending) (W' : World) : Prop := ∃ k, k ≤ 200 ∧ k ≤ l.length ∧ e = .returned (.tuple #[.agg (sqA (foldS l k)), .agg (rkA (foldS l k)), .bool true]) ∧ Below W.heap.size W W'
theorem zeroSq (w : World) : (zeroValue 27).run Try.prog w = .ok (.agg (sqA z0S)) w := by rw [sqA_zero]; kernel_rfl
theorem RkAt.lt {w : World} {p : Nat} {s : SqS} (h : RkAt w p s) : p < w.heap.size := (Array.getElem?_eq_some_iff.1 h).1
theorem zS_z0 : zS = z0S := rfl
/-- the four boxes that played makes -/
theorem four_boxes (w : World) (A B C D : Obj) :
    ((((w.alloc A).alloc B).alloc C).alloc D).heap[w.heap.size]? = some A ∧ ((((w.alloc A).alloc B).alloc C).alloc D).heap[w.heap.size + 1]? = some B ∧ ((((w.alloc A).alloc B).alloc C).alloc D).heap[w.heap.size + 1 + 1]? = some C ∧ ((((w.alloc A).alloc B).alloc C).alloc D).heap[w.heap.size + 1 + 1 + 1]? = some D ∧
    ((((w.alloc A).alloc B).alloc C).alloc D).heap.size = w.heap.size + 4 ∧ Below w.heap.size w ((((w.alloc A).alloc B).alloc C).alloc D) := by
  have s1 : ∀ (u : World) (o : Obj), (u.alloc o).heap.size = u.heap.size + 1 := fun u o => by show (u.heap.push _).size = _; rw [Array.size_push]
  have z0 : ∀ (u : World) (o : Obj) (n : Nat), n = u.heap.size → (u.alloc o).heap[n]? = some o := fun u o n h => last_block0 u o n h
  refine ⟨blk_alloc (blk_alloc (blk_alloc (z0 _ _ _ rfl) _) _) _, blk_alloc (blk_alloc (z0 _ _ _ (s1 _ _).symm) _) _, blk_alloc (z0 _ _ _ (by rw [s1, s1])) _, z0 _ _ _ (by rw [s1, s1, s1]), by rw [s1, s1, s1, s1], ?_⟩
  exact ((((Below.refl _ _).alloc (Nat.le_refl _) _).alloc (by rw [s1]; omega) _).alloc (by rw [s1, s1]; omega) _).alloc (by rw [s1, s1, s1]; omega) _
theorem pl_end (wr w : World) (r0 : wr.heap[w.heap.size]? = some (.cells (sqA z0S) 27 (0, 0))) (r1 : wr.heap[w.heap.size + 1]? = some (.cells (rkA z0S) 30 (0, 0))) (hB : Below w.heap.size w wr) (A B : Array Value) :
    ((wr.drew.setRow w.heap.size A).setRow (w.heap.size + 1) B).heap[w.heap.size]? = some (.cells A 27 (0, 0)) ∧ ((wr.drew.setRow w.heap.size A).setRow (w.heap.size + 1) B).heap[w.heap.size + 1]? = some (.cells B 30 (0, 0)) ∧ Below w.heap.size w ((wr.drew.setRow w.heap.size A).setRow (w.heap.size + 1) B) ∧
    ((wr.drew.setRow (w.heap.size + 1) B).setRow w.heap.size A).heap[w.heap.size]? = some (.cells A 27 (0, 0)) ∧ ((wr.drew.setRow (w.heap.size + 1) B).setRow w.heap.size A).heap[w.heap.size + 1]? = some (.cells B 30 (0, 0)) ∧ Below w.heap.size w ((wr.drew.setRow (w.heap.size + 1) B).setRow w.heap.size A) := by
  have r0' : wr.drew.heap[w.heap.size]? = some (.cells (sqA z0S) 27 (0, 0)) := r0
  have r1' : wr.drew.heap[w.heap.size + 1]? = some (.cells (rkA z0S) 30 (0, 0)) := r1
  have hBd : Below w.heap.size w wr.drew := below_drewN hB 1
  refine ⟨?_, ?_, below_setRow (below_setRow hBd (Nat.le_refl _) _) (by omega) _, ?_, ?_, below_setRow (below_setRow hBd (by omega) _) (Nat.le_refl _) _⟩
  · rw [setRow_other _ _ _ _ (by omega)]; exact setRow_heap _ _ _ _ _ _ r0'
  · exact setRow_heap _ _ _ _ _ _ ((setRow_other _ _ _ _ (by omega)).trans r1')
  · exact setRow_heap _ _ _ _ _ _ ((setRow_other _ _ _ _ (by omega)).trans r0')
  · rw [setRow_other _ _ _ _ (by omega)]; exact setRow_heap _ _ _ _ _ _ r1'
set_option maxRecDepth 100000 in
set_option maxHeartbeats 2000000 in
theorem sq_played (a : Option Addr) (cap : Nat) (l : List Nat) (w : World) (hs : SlN .u32 w a l) (hl : ∀ x ∈ l, x < 4294967296) (hn : l.length ≤ 9223372036854775807) :
    Calls Try.prog 7 #[.slice a l.length cap] w (PlPost w l) := by
  have hz := zeroRk
  rw [zS_z0] at hz
  have hz2 := zeroSq
  obtain ⟨b0, b1, b2, b3, hsz, hB⟩ := four_boxes w (.cells (sqA z0S) 27) (.cells (rkA z0S) 30) (.cells (sqA z0S) 27) (.cells (rkA z0S) 30)
  have hsh := hide hs
  have hlh := hide hl
  clear hs hl
  go_enter Try.func7, Try.ntmps7
  go_upto_region 3 with (fail)
  generalize World.alloc (World.alloc (World.alloc (World.alloc w _) _) _) _ = W at *
  go_wp2_with fail
  have b0h := hide b0
  have b1h := hide b1
  have b2h := hide b2
  have b3h := hide b3
  have hBh := hide hB
  have hszl : W.heap.size ≥ w.heap.size + 4 := by omega
  clear b0 b1 b2 b3 hB hsz hz2
  go_loopw [7] (fun i wr => ∃ k : Nat, k ≤ l.length ∧ k ≤ 200 ∧ i = .int .i64 k ∧ wr.heap[w.heap.size]? = some (.cells (sqA z0S) 27 (0, 0)) ∧ wr.heap[w.heap.size + 1]? = some (.cells (rkA z0S) 30 (0, 0)) ∧
      SqAt wr (w.heap.size + 1 + 1) (foldS l k) ∧ RkAt wr (w.heap.size + 1 + 1 + 1) (foldS l k) ∧ Below w.heap.size w wr) (fun i _ => l.length - (intOf i).toNat)
  case atStart => exact ⟨0, by omega, by omega, rfl, b0h.out, b1h.out, by rw [foldS_0]; exact b2h.out, by rw [foldS_0]; exact b3h.out, hBh.out⟩
  case round =>
    obtain ⟨k, hk, hk2, rfl, r0, r1, hS, hR, hB⟩ := hrel
    have hok := foldS_ok l hlh.out k hk
    by_cases hlt : k < l.length
    · by_cases hlt2 : k < 200
      · obtain ⟨x, hx⟩ : ∃ x, l[k]? = some x := ⟨_, List.getElem?_eq_getElem hlt⟩
        obtain ⟨bb, off, rfl, hc⟩ := (hsh.out.below hB) k x hx
        have hxl := hlh.out x (List.mem_of_getElem? hx)
        have hnx := hide (foldS_s l k x hx)
        have i1 : (k : Int) < (l.length : Int) := by omega
        clear hx
        generalize foldS l k = s at *
        go_upto_region 6 with (fail)
        have hszw : w.heap.size + 4 ≤ wr.heap.size := by have := hR.lt; omega
        have hTk := hide (r_take s (2147483648 * (k : Int)) (x : Int) · hok (by omega) ⟨by omega, by omega⟩)
        go_cut [8, 9] (fun v8 v9 wx => ∃ g : Nat, v8 = .pointer (some ⟨g, 0, none⟩) ∧ v9 = .int .i64 (sqTake s x).2 ∧ wr.heap.size ≤ g ∧ RkAt wx g (sqTake s x).1 ∧ Below wr.heap.size wr wx)
        case first =>
          have hS1 : ∀ w' : World, Below wr.heap.size wr w' → (blk w' (w.heap.size + 1 + 1 + 1) = some (.cells (rkA s) 30 (0, 0)) ∧ w'.cell? ⟨bb, off + k, none⟩ = some (.int .u32 x) ∧ Below wr.heap.size wr w') := fun w' hb => by
            refine ⟨?_, ?_, hb⟩
            · rw [blk_below hb (by omega)]; exact blk_of hR
            · rw [hb.cell (p := ⟨bb, off + k, none⟩) (cell_block_lt hc)]; exact hc
          have hS1h := Lib.hid hS1
          have hk0 : (0 : Int) ≤ (k : Int) := by omega
          clear hS1 r0 r1 hS hR hc hB
          go_region_held3 (fun w' => blk w' (w.heap.size + 1 + 1 + 1) = some (.cells (rkA s) 30 (0, 0)) ∧ w'.cell? ⟨bb, off + k, none⟩ = some (.int .u32 x) ∧ Below wr.heap.size wr w')
            (first | (refine hS1h.out _ ?_; exact below_drewN (Below.refl _ _) 1) | (go_split_ands; refine hS1h.out _ ?_; first | exact Below.trans (by assumption) (Below.mono (by assumption) (Below.size (by assumption))) | exact Below.alloc (by assumption) (Below.size (by assumption)) _ | exact below_setRow (by assumption) (by first | exact Nat.le_refl _ | omega) _))
            (first | (go_at_call 13; refine (hTk.out _).mono ?_; rintro e w1 ⟨rfl, hb1⟩; have hsz1 : wr.heap.size ≤ w1.heap.size := (by first | exact size_le_drew _ hb1.size | exact size_le_alloc _ _ hb1.size); try (have hz1 := blk_below hb1 (size_lt_alloc wr _))))
          all_goals go_wp2_with fail
          all_goals go_meet
          · rename_i hH
            exact ⟨_, rfl, rfl, hsz1, setRow_heap _ _ _ _ _ _ (last_block0 _ _ _ rfl), hH.2.2⟩
          · rename_i hH
            exact ⟨_, rfl, rfl, Nat.le_refl _, setRow_heap _ _ _ _ _ _ (blk_heap (hz1.trans (blk_of (last_block0 wr _ _ rfl)))), hH.2.2⟩
        case rest =>
          obtain ⟨g, rfl, rfl, hg, hG, hbx⟩ := hcut
          have hokx := sqTake_ok s _ (x : Int) hok (by omega) (by omega)
          have hS2 : SqAt wc (w.heap.size + 1 + 1) s := by unfold SqAt; rw [hbx.block _ (by omega)]; exact hS
          have hT := hide (s_take (w.heap.size + 1 + 1) s (2147483648 * (k : Int)) x wc hS2 hok (by omega))
          have hc2 : wc.cell? ⟨bb, off + k, none⟩ = some (.int .u32 x) := by rw [hbx.cell (p := ⟨bb, off + k, none⟩) (cell_block_lt hc)]; exact hc
          have hRx := blk_of (hbx.block _ (by omega : w.heap.size + 1 + 1 + 1 < wr.heap.size) |>.trans hR)
          go_wp2_with fail
          refine hT.out.mono ?_
          rintro e w2 ⟨rfl, hS3, hg3⟩
          have hgl := hG.lt
          have k5 := blk_of hS3
          have k8 : blk w2 g = some (.cells (rkA (sqTake s x).1) 30 (0, 0)) := blk_of ((hg3.block g hgl (by intro e; injection e; omega)).trans hG)
          have hB2 : Below w.heap.size w w2 := below_of_only (hB.trans (hbx.mono (by omega))) hg3 (by have := hbx.size; omega) (by omega)
          have q6 : blk w2 (w.heap.size + 1 + 1 + 1) = some (.cells (rkA s) 30 (0, 0)) := blk_of ((hg3.block _ (by have := hbx.size; omega) (by intro e; injection e; omega)).trans (hbx.block _ (by omega) |>.trans hR))
          have q0 : blk w2 w.heap.size = some (.cells (sqA z0S) 27 (0, 0)) := blk_of ((hg3.block _ (by have := hbx.size; omega) (by intro e; injection e; omega)).trans (hbx.block _ (by omega) |>.trans r0))
          have q1 : blk w2 (w.heap.size + 1) = some (.cells (rkA z0S) 30 (0, 0)) := blk_of ((hg3.block _ (by have := hbx.size; omega) (by intro e; injection e; omega)).trans (hbx.block _ (by omega) |>.trans r1))
          have hsz2 : wr.heap.size ≤ w2.heap.size := Nat.le_trans hbx.size hg3.size
          have hsz3 : g < w2.heap.size := Nat.lt_of_lt_of_le hgl hg3.size
          have hnx2 : Hid (foldS l (k + 1) = (sqTake s x).1) := hnx
          clear hT hc2 hRx hS2 hS3 hG hbx hg3 hTk hR hS hB r0 r1 hc hnx
          go_wp2_with fail
          refine (q_same _ _).mono ?_
          rintro e w3 ⟨rfl, hb3⟩
          have h8 := (blk_below hb3 hsz3).trans k8
          have h5 := (blk_below hb3 (by omega : w.heap.size + 1 + 1 < w2.heap.size)).trans k5
          have h6 := (blk_below hb3 (by omega : w.heap.size + 1 + 1 + 1 < w2.heap.size)).trans q6
          have h0 := (blk_below hb3 (by omega : w.heap.size < w2.heap.size)).trans q0
          have h1 := (blk_below hb3 (by omega : w.heap.size + 1 < w2.heap.size)).trans q1
          have hB3 := hB2.trans (hb3.mono (by omega))
          clear k8 k5 q6 q0 q1 hB2 hb3
          go_wp2_with fail
          go_roundw
          case rel =>
            refine ⟨k + 1, by omega, by omega, by go_num, ?_, ?_, ?_, ?_, below_setRow hB3 (by omega) _⟩
            · rw [setRow_other _ _ _ _ (by omega)]; exact blk_heap h0
            · rw [setRow_other _ _ _ _ (by omega)]; exact blk_heap h1
            · unfold SqAt; rw [setRow_other _ _ _ _ (by omega), hnx2.out]; exact blk_heap h5
            · unfold RkAt; rw [hnx2.out]; exact setRow_heap _ _ _ _ _ _ (blk_heap h6)
          case measure => simp [intOf]; omega
      · have hd2 : decide ((k : Int) < 200) = false := decide_eq_false (by omega)
        go_upto_region 10 with (fail)
        have k0 := blk_of r0
        have k1 := blk_of r1
        have k5 := blk_of hS
        have k6 := blk_of hR
        have hfin := Lib.hid (pl_end wr w r0 r1 hB)
        clear r0 r1 hS hR hB
        go_region
        all_goals
          go_wp2_with fail
          refine bodyPost_ret (v := .tuple #[.agg (sqA (foldS l k)), .agg (rkA (foldS l k)), .bool true]) ?_ rfl ?_
          · exact results_row2_tmp rfl _ _ w.heap.size 27 (sqA (foldS l k)) (0, 0) _ (w.heap.size + 1) 30 (rkA (foldS l k)) (0, 0) _ (.bool true) rfl rfl rfl (by first | exact (hfin.out _ _).1 | exact (hfin.out _ _).2.2.2.1) (by first | exact (hfin.out _ _).2.1 | exact (hfin.out _ _).2.2.2.2.1) Try.underlying27 rfl (by rw [sq_info6, sq_size6]) Try.underlying30 rfl (rk_info _)
          · first | exact ⟨k, hk2, hk, rfl, (hfin.out _ _).2.2.1⟩ | exact ⟨k, hk2, hk, rfl, (hfin.out _ _).2.2.2.2.2⟩
    · have hd1 : decide ((k : Int) < (l.length : Int)) = false := decide_eq_false (by omega)
      go_upto_region 10 with (fail)
      have k0 := blk_of r0
      have k1 := blk_of r1
      have k5 := blk_of hS
      have k6 := blk_of hR
      have hfin := Lib.hid (pl_end wr w r0 r1 hB)
      clear r0 r1 hS hR hB
      go_region
      all_goals
        go_wp2_with fail
        refine bodyPost_ret (v := .tuple #[.agg (sqA (foldS l k)), .agg (rkA (foldS l k)), .bool true]) ?_ rfl ?_
        · exact results_row2_tmp rfl _ _ w.heap.size 27 (sqA (foldS l k)) (0, 0) _ (w.heap.size + 1) 30 (rkA (foldS l k)) (0, 0) _ (.bool true) rfl rfl rfl (by first | exact (hfin.out _ _).1 | exact (hfin.out _ _).2.2.2.1) (by first | exact (hfin.out _ _).2.1 | exact (hfin.out _ _).2.2.2.2.1) Try.underlying27 rfl (by rw [sq_info6, sq_size6]) Try.underlying30 rfl (rk_info _)
        · first | exact ⟨k, hk2, hk, rfl, (hfin.out _ _).2.2.1⟩ | exact ⟨k, hk2, hk, rfl, (hfin.out _ _).2.2.2.2.2⟩
end Go.Proofs.Ytickioeepicgcaa
