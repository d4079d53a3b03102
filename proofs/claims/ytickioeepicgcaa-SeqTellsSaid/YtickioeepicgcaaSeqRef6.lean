/- The document's Take of layer 8: a newer number. Conditions: the counts are small. -/
import Derived.Test.YtickioeepicgcaaSeqRef5
import Derived.Test.YtickioeepicgcaaSeqMid
import Derived.Deep.MidRow
namespace Go.Proofs.Ytickioeepicgcaa
open Go.RowKit
attribute [local irreducible] behindZ bw goneM sqLost rkA bwD upM
/-- 64 marks as cells -/
def mkA (m : Nat → Bool) : Array Value := ((List.range 64).map (fun i => Value.bool (m i))).toArray
theorem mkA_size (m : Nat → Bool) : (mkA m).size = 64 := by simp [mkA]
theorem mkA_get (m : Nat → Bool) (i : Nat) (h : i < 64) : (mkA m)[i]? = some (.bool (m i)) := by simp [mkA, h]
theorem mkA_ext (m : Nat → Bool) (c : Array Value) (hs : c.size = 64) (h : ∀ i, i < 64 → c[i]? = some (.bool (m i))) : c = mkA m := by
  apply Array.ext_getElem?
  intro i
  by_cases hi : i < 64
  · rw [h i hi, mkA_get m i hi]
  · rw [Array.getElem?_eq_none (by omega), Array.getElem?_eq_none (by rw [mkA_size]; omega)]
theorem mkA_set (m m' : Nat → Bool) (j : Nat) (b : Bool) (hj : j < 64) (h : ∀ i, i < 64 → m' i = if i = j then b else m i) : (mkA m).setIfInBounds j (.bool b) = mkA m' := by
  apply mkA_ext
  · rw [Array.size_setIfInBounds, mkA_size]
  · intro i hi
    rw [h i hi]
    by_cases e : i = j
    · subst e; rw [Array.getElem?_setIfInBounds_self_of_lt (by rw [mkA_size]; exact hi), if_pos rfl]
    · rw [Array.getElem?_setIfInBounds_ne (fun x => e x.symm), if_neg e, mkA_get m i hi]
theorem mkA_one (m : Nat → Bool) : (mkA m).all (·.oneCell') = true := by
  rw [Array.all_eq_true']
  intro x hx
  simp only [mkA, List.mem_toArray, List.mem_map] at hx
  obtain ⟨i, _, rfl⟩ := hx
  rfl
theorem mk_info (m : Nat → Bool) : (Try.prog.info? 28).map (·.size) = some (mkA m).size := by rw [mkA_size]; kernel_rfl
theorem zeroMk (w : World) : (zeroValue 28).run Try.prog w = .ok (.agg (mkA fun _ => false)) w := by kernel_rfl
theorem mkA_congr (m m' : Nat → Bool) (h : ∀ i, i < 64 → m i = m' i) : mkA m = mkA m' := mkA_ext _ _ (mkA_size _) (fun i hi => by rw [mkA_get m i hi, h i hi])
theorem mkA_list (m : Nat → Bool) : (mkA m).toList = (List.range 64).map fun i => Value.bool (m i) := by simp [mkA]
theorem RkAt.mid {w : World} {p : Nat} {s : SqS} (h : RkAt w p s) (m : Nat → Bool) : RkAt (w.setCells p 2 (mkA m).toList) p { s with m := m } := by rw [mkA_list]; exact h.setMarks m
attribute [local irreducible] mkA
def MkAt (w : World) (p : Nat) (m : Nat → Bool) : Prop := w.heap[p]? = some (.cells (mkA m) 28 (0, 0))
/-- the marks moved, as far as k of the old ones -/
def upN (m : Nat → Bool) (b k : Nat) : Nat → Bool := fun i => decide (b ≤ i) && decide (i < k + b) && m (i - b)
theorem up_lost (m : Nat → Bool) (b : Int) (h0 : 0 < b) : (upM m b.toNat 64 : Int) + (if 64 < b then b - 64 else 0) = sqLost m b := by
  unfold sqLost
  by_cases h : b < 64
  · rw [if_neg (by omega), if_pos h, upM_gone m b.toNat (by omega)]; omega
  · rw [if_neg h, upM_far m b.toNat 64 (by omega), upM_gone m 64 (Nat.le_refl _)]
    by_cases h2 : 64 < b
    · rw [if_pos h2]
    · rw [if_neg h2]; omega
set_option maxHeartbeats 1000000 in
theorem r_take_up (s : SqS) (c n : Int) (b : Int) (w : World) (ok : SqOk s c) (hc : c ≤ 1000000000000) (hn : 0 ≤ n ∧ n < 4294967296) (ha : s.any = true) (hb : behindZ n s.top = b) (hb0 : 0 < b) (hb2 : b < 2147483648) :
    Calls Try.prog 13 #[.agg (rkA s), .int .u32 n] w (RkPost w (⟨s.any, n, onM (mvM s.m b.toNat) 0, s.came + 1, s.tw, s.lost + sqLost s.m b⟩, 0)) := by
  obtain ⟨o1, o2, r1, r2, q1, q2, k1, k2⟩ := ok
  have hz := zeroRk
  have hz2 := zeroMk
  have hbeh := fun W => r_behind n s.top W hn ⟨o1, o2⟩
  rw [hb] at hbeh
  obtain ⟨hs, ho, hbl⟩ := two_blocks w s
  have hsz : w.heap.size + 2 = ((w.alloc (.cells (rkA s) 30)).alloc (.cells (rkA zS) 30)).heap.size := by
    show _ = ((w.heap.push _).push _).size
    rw [Array.size_push, Array.size_push]
  go_enter Try.func13, Try.ntmps13
  go_upto_region 1 with (fail)
  generalize World.alloc (World.alloc w _) _ = W at *
  have c0 : W.cell? ⟨w.heap.size, 0, none⟩ = some (.bool true) := by rw [cell_of_block hs, rkA_0, ha]
  have c1 : W.cell? ⟨w.heap.size, 1, none⟩ = some (.int .u32 s.top) := by rw [cell_of_block hs]; exact rkA_1 s
  go_wp2_with fail
  refine (hbeh _).mono ?_
  rintro e w' ⟨rfl, rfl⟩
  have hs2 := RkAt.alloc hs (.cells (mkA fun _ => false) 28)
  have ho2 := RkAt.alloc ho (.cells (mkA fun _ => false) 28)
  have hm2 : MkAt _ W.heap.size (fun _ => false) := last_block0 W (.cells (mkA fun _ => false) 28) _ rfl
  have hbl2 := hbl.alloc (by rw [← hsz]; omega) (.cells (mkA fun _ => false) 28)
  clear hs ho hbl c0 c1
  go_upto_region 17 with (fail)
  generalize World.alloc W _ = V at *
  go_wp2_with fail
  have hlo : Hid (∀ k, upM s.m b.toNat k ≤ k) := hide (fun k => upM_le _ _ k)
  have h2 := hide hs2
  have hm3 := hide hm2
  have ho3 := hide ho2
  have hB3 := hide hbl2
  clear hs2 hm2 ho2 hbl2 hz hz2 hbeh hb
  go_loopw [9] (fun i wr => ∃ k : Nat, k ≤ 64 ∧ i = .int .i64 k ∧ RkAt wr w.heap.size { s with lost := s.lost + (upM s.m b.toNat k : Nat) } ∧ MkAt wr W.heap.size (upN s.m b.toNat k) ∧ RkAt wr (w.heap.size + 1) zS ∧ Below w.heap.size w wr) (fun i _ => 64 - (intOf i).toNat)
  case atStart =>
    refine ⟨0, by omega, rfl, ?_, ?_, ho3.out, hB3.out⟩
    · exact h2.out.to (rkA_congr _ _ rfl rfl (fun _ _ => rfl) rfl rfl (by unfold upM; simp))
    · have : upN s.m b.toNat 0 = fun _ => false := by funext i; unfold upN; simp; omega
      rw [this]; exact hm3.out
  case round =>
    obtain ⟨k, hk, rfl, hs, hm, ho, hB⟩ := hrel
    have hle := hlo.out k
    by_cases hlt : k < 64
    · have ck : wr.cell? ⟨w.heap.size, 2 + k, none⟩ = some (.bool (s.m k)) := by rw [cell_of_block hs]; exact rkA_m _ k hlt
      by_cases hkb : (k : Int) + b < 64
      · have hd : decide ((k : Int) + b < 64) = true := decide_eq_true hkb
        have hj : ((k : Int) + b).toNat < 64 := by omega
        have cm : ∃ x, wr.cell? ⟨W.heap.size, ((k : Int) + b).toNat, none⟩ = some (.bool x) := ⟨_, by rw [cell_of_block hm]; exact mkA_get _ _ hj⟩
        obtain ⟨x, cm⟩ := cm
        have fm : wr.frozen? ⟨W.heap.size, ((k : Int) + b).toNat, none⟩ = false := frozen_of_row wr _ _ _ _ hm
        have hup : Hid (upM s.m b.toNat (k + 1) = upM s.m b.toNat k) := hide (by rw [upM_s, if_neg (by omega)]; rfl)
        have hN : Hid ((mkA (upN s.m b.toNat k)).setIfInBounds ((k : Int) + b).toNat (.bool (s.m k)) = mkA (upN s.m b.toNat (k + 1))) := hide (mkA_set _ _ _ _ hj (fun i hi => by
          unfold upN
          by_cases e : i = ((k : Int) + b).toNat
          · rw [if_pos e]
            have e1 : b.toNat ≤ i := by omega
            have e2 : i < k + 1 + b.toNat := by omega
            have e3 : i - b.toNat = k := by omega
            rw [decide_eq_true e1, decide_eq_true e2, e3]; rfl
          · rw [if_neg e]
            have e2 : (i < k + 1 + b.toNat) = (i < k + b.toNat) := by apply propext; omega
            simp only [e2]))
        have hsh := hide hs
        have hmh := hide hm
        have hoh := hide ho
        have hbl3 : w.heap.size ≤ W.heap.size := by omega
        clear hs hm ho
        go_wp2_with fail
        go_roundw
        case rel =>
          refine ⟨k + 1, by omega, by go_num, ?_, ?_, RkAt.other hoh.out (by omega) _ _, hB.setCell (p := ⟨W.heap.size, ((k : Int) + b).toNat, none⟩) hbl3 _⟩
          · rw [hup.out]; exact RkAt.other hsh.out (by omega) _ _
          · unfold MkAt
            rw [blk_set hmh.out, hN.out]
        case measure => simp [intOf]; omega
      · have c68 : wr.cell? ⟨w.heap.size, 68, none⟩ = some (.int .i64 (s.lost + (upM s.m b.toNat k : Nat))) := by rw [cell_of_block hs]; exact rkA_68 _
        have f68 : wr.frozen? ⟨w.heap.size, 68, none⟩ = false := frozen_of_row wr _ _ _ _ hs
        have hd : decide ((k : Int) + b < 64) = false := decide_eq_false hkb
        have hN : Hid (mkA (upN s.m b.toNat k) = mkA (upN s.m b.toNat (k + 1))) := hide (mkA_congr _ _ (fun i hi => by
          unfold upN
          have e1 : i < k + b.toNat := by omega
          have e2 : i < k + 1 + b.toNat := by omega
          rw [decide_eq_true e1, decide_eq_true e2]))
        have hup : Hid (upM s.m b.toNat (k + 1) = upM s.m b.toNat k + (!(s.m k)).toNat) := hide (by rw [upM_s, if_pos (by omega)])
        have hsh := hide hs
        have hmh := hide hm
        have hoh := hide ho
        clear hs hm ho
        cases hmk : s.m k
        · rw [hmk] at ck hup
          clear hmk
          go_wp2_with fail
          go_roundw
          case rel =>
            refine ⟨k + 1, by omega, by go_num, ?_, ?_, RkAt.other hoh.out (by omega) 68 _, hB.setCell (p := ⟨w.heap.size, 68, none⟩) (Nat.le_refl _) _⟩
            · exact (hsh.out.set68 (s.lost + (upM s.m b.toNat k : Nat) + 1)).to (rkA_congr _ _ rfl rfl (fun _ _ => rfl) rfl rfl (by rw [hup.out]; simp; omega))
            · have := blk_set_other hmh.out (by omega : W.heap.size ≠ w.heap.size) 68 (.int .i64 (s.lost + (upM s.m b.toNat k : Nat) + 1))
              unfold MkAt
              rw [← hN.out]
              exact this
          case measure => simp [intOf]; omega
        · rw [hmk] at ck hup
          clear hmk
          go_wp2_with fail
          go_roundw
          case rel =>
            refine ⟨k + 1, by omega, by go_num, ?_, ?_, hoh.out, hB⟩
            · rw [hup.out]; exact hsh.out
            · unfold MkAt
              rw [← hN.out]
              exact hmh.out
          case measure => simp [intOf]; omega
    · obtain rfl : k = 64 := by omega
      have cl : wr.cell? ⟨w.heap.size, 68, none⟩ = some (.int .i64 (s.lost + (upM s.m b.toNat 64 : Nat))) := by rw [cell_of_block hs]; exact rkA_68 _
      have cc : wr.cell? ⟨w.heap.size, 66, none⟩ = some (.int .i64 s.came) := by rw [cell_of_block hs]; exact rkA_66 _
      have cz : wr.cell? ⟨W.heap.size, 0, none⟩ = some (.bool (upN s.m b.toNat 64 0)) := by rw [cell_of_block hm]; exact mkA_get _ 0 (by omega)
      have ct : wr.cell? ⟨w.heap.size, 1, none⟩ = some (.int .u32 s.top) := by rw [cell_of_block hs]; exact rkA_1 _
      have fl : wr.frozen? ⟨w.heap.size, 68, none⟩ = false := frozen_of_row wr _ _ _ _ hs
      have fz : wr.frozen? ⟨W.heap.size, 0, none⟩ = false := frozen_of_row wr _ _ _ _ hm
      have hsh := hide hs
      have hmh := hide hm
      have hoh := hide ho
      clear hs hm ho
      by_cases hbig : 64 < b
      · go_upto_region 27 with (fail)
        have hmU : MkAt ((wr.setCell ⟨w.heap.size, 68, none⟩ (.int .i64 (s.lost + (upM s.m b.toNat 64 : Nat) + b - 64))).setCell ⟨W.heap.size, 0, none⟩ (.bool true)) W.heap.size (onM (mvM s.m b.toNat) 0) := by
          unfold MkAt
          rw [blk_set (blk_set_other hmh.out (by omega : W.heap.size ≠ w.heap.size) 68 _), mkA_set _ (onM (mvM s.m b.toNat) 0) 0 true (by omega) (fun i hi => by
            unfold onM mvM upN
            by_cases e : i = 0
            · simp [e]
            · have e2 : i < 64 + b.toNat := by omega
              simp [e, e2])]
        have hsU : RkAt ((wr.setCell ⟨w.heap.size, 68, none⟩ (.int .i64 (s.lost + (upM s.m b.toNat 64 : Nat) + b - 64))).setCell ⟨W.heap.size, 0, none⟩ (.bool true)) w.heap.size { s with lost := s.lost + sqLost s.m b } := (RkAt.other (hsh.out.set68 (s.lost + (upM s.m b.toNat 64 : Nat) + b - 64)) (by omega) 0 (.bool true)).to (rkA_congr _ _ rfl rfl (fun _ _ => rfl) rfl rfl (by
          have := up_lost s.m b hb0
          rw [if_pos hbig] at this
          simp only
          omega))
        have hoU : RkAt ((wr.setCell ⟨w.heap.size, 68, none⟩ (.int .i64 (s.lost + (upM s.m b.toNat 64 : Nat) + b - 64))).setCell ⟨W.heap.size, 0, none⟩ (.bool true)) (w.heap.size + 1) zS := RkAt.other (RkAt.other hoh.out (by omega) 68 _) (by omega) 0 _
        have hBU : Below w.heap.size w ((wr.setCell ⟨w.heap.size, 68, none⟩ (.int .i64 (s.lost + (upM s.m b.toNat 64 : Nat) + b - 64))).setCell ⟨W.heap.size, 0, none⟩ (.bool true)) := (hB.setCell (p := ⟨w.heap.size, 68, none⟩) (Nat.le_refl _) _).setCell (p := ⟨W.heap.size, 0, none⟩) (by show w.heap.size ≤ W.heap.size; omega) _
        clear hsh hmh hoh hB cl cc cz ct fl fz
        generalize (wr.setCell ⟨w.heap.size, 68, none⟩ (.int .i64 (s.lost + (upM s.m b.toNat 64 : Nat) + b - 64))).setCell ⟨W.heap.size, 0, none⟩ (.bool true) = U at hmU hsU hoU hBU ⊢
        have ct : U.cell? ⟨w.heap.size, 1, none⟩ = some (.int .u32 s.top) := by rw [cell_of_block hsU]; exact rkA_1 _
        have cc : U.cell? ⟨w.heap.size, 66, none⟩ = some (.int .i64 s.came) := by rw [cell_of_block hsU]; exact rkA_66 _
        have hthere : U.there w.heap.size 2 (mkA (onM (mvM s.m b.toNat) 0)).size := by
          intro j hj
          rw [mkA_size] at hj
          exact ⟨by rw [cell_of_block hsU, rkA_m _ j hj]; rfl, frozen_of_row U _ _ _ _ hsU⟩
        have hth := hide hthere
        have hmh := hide hmU
        have hsh := hide hsU
        clear hthere hmU hsU hsz hle hlo
        have hoh := hide hoU
        have hBh := hide hBU
        clear hoU hBU ct cc
        have ct : U.cell? ⟨w.heap.size, 1, none⟩ = some (.int .u32 s.top) := by rw [cell_of_block hsh.out]; exact rkA_1 _
        have cc : U.cell? ⟨w.heap.size, 66, none⟩ = some (.int .i64 s.came) := by rw [cell_of_block hsh.out]; exact rkA_66 _
        go_upto_region 28 with (first | (refine wpList_load_row rfl _ _ rfl _ rfl _ _ _ _ hmh.out Try.underlying28 rfl (mk_info _) ?_) | (refine Go.wpList_store_mid rfl _ _ _ rfl w.heap.size 2 (mkA (onM (mvM s.m b.toNat) 0)) rfl rfl hth.out (mk_info _) (mkA_one _) ?_; have hX := hsh.out.mid (onM (mvM s.m b.toNat) 0); have hoX := RkAt.otherCells (q := w.heap.size) (by omega) (mkA (onM (mvM s.m b.toNat) 0)).toList 2 U hoh.out; have hBX := below_setCells (p := w.heap.size) (Nat.le_refl _) (mkA (onM (mvM s.m b.toNat) 0)).toList 2 U hBh.out; revert hX hoX hBX; generalize World.setCells U _ _ _ = X; intro hX hoX hBX; have xt : X.cell? ⟨w.heap.size, 1, none⟩ = some (.int .u32 s.top) := (cell_of_block hX).trans (rkA_1 _); have xc : X.cell? ⟨w.heap.size, 66, none⟩ = some (.int .i64 s.came) := (cell_of_block hX).trans (rkA_66 _); have x1 : X.frozen? ⟨w.heap.size, 1, none⟩ = false := frozen_of_row X _ _ _ _ hX; have x2 : X.frozen? ⟨w.heap.size, 66, none⟩ = false := frozen_of_row X _ _ _ _ hX; have hXh := hide hX; have hoXh := hide hoX; have hBXh := hide hBX; clear hX hoX hBX))
        have hV2 : RkAt ((X.setCell ⟨w.heap.size, 1, none⟩ (.int .u32 n)).setCell ⟨w.heap.size, 66, none⟩ (.int .i64 (s.came + 1))) w.heap.size ⟨s.any, n, onM (mvM s.m b.toNat) 0, s.came + 1, s.tw, s.lost + sqLost s.m b⟩ := ((hXh.out.set1 n).set66 (s.came + 1)).to (rkA_congr _ _ rfl rfl (fun _ _ => rfl) rfl rfl rfl)
        have hoV : RkAt ((X.setCell ⟨w.heap.size, 1, none⟩ (.int .u32 n)).setCell ⟨w.heap.size, 66, none⟩ (.int .i64 (s.came + 1))) (w.heap.size + 1) zS := RkAt.other (RkAt.other hoXh.out (by omega) 1 _) (by omega) 66 _
        have hBV := (hBXh.out.setCell (p := ⟨w.heap.size, 1, none⟩) (Nat.le_refl _) (.int .u32 n)).setCell (p := ⟨w.heap.size, 66, none⟩) (Nat.le_refl _) (.int .i64 (s.came + 1))
        clear hXh hoXh hBXh xt xc x1 x2 hsh hmh hoh hBh hth
        generalize World.setCell (World.setCell X _ _) _ _ = Y at hV2 hoV hBV ⊢
        have hxr : Y.heap[w.heap.size]? = some (.cells (rkA ⟨s.any, n, onM (mvM s.m b.toNat) 0, s.came + 1, s.tw, s.lost + sqLost s.m b⟩) 30 (0, 0)) := hV2
        have hor : Y.heap[w.heap.size + 1]? = some (.cells (rkA zS) 30 (0, 0)) := hoV
        go_wp2_with (first | (refine wpList_load_row rfl _ _ rfl _ rfl _ _ _ _ hxr Try.underlying30 rfl (rk_info _) ?_) | (refine wpList_store_row rfl _ _ _ rfl _ _ rfl rfl _ _ hor (rk_info _) (rkA_sz _ _) (rkA_one _) ?_))
        refine bodyPost_ret (v := .tuple #[.agg (rkA ⟨s.any, n, onM (mvM s.m b.toNat) 0, s.came + 1, s.tw, s.lost + sqLost s.m b⟩), .int .i64 0]) ?hres rfl ?hpost
        case hpost => exact ⟨by first | rfl | (rw [ha]), below_setRow hBV (by omega) _⟩
        case hres =>
          refine results_row_tmp rfl _ _ (w.heap.size + 1) 30 (rkA ⟨s.any, n, onM (mvM s.m b.toNat) 0, s.came + 1, s.tw, s.lost + sqLost s.m b⟩) (0, 0) _ (.int .i64 0) rfl rfl ?hg Try.underlying30 rfl (rk_info _)
          case hg => rw [ha]; exact setRow_heap _ _ _ _ _ _ hor
      · go_upto_region 27 with (fail)
        have hmU : MkAt (wr.setCell ⟨W.heap.size, 0, none⟩ (.bool true)) W.heap.size (onM (mvM s.m b.toNat) 0) := by
          unfold MkAt
          rw [blk_set hmh.out, mkA_set _ (onM (mvM s.m b.toNat) 0) 0 true (by omega) (fun i hi => by
            unfold onM mvM upN
            by_cases e : i = 0
            · simp [e]
            · have e2 : i < 64 + b.toNat := by omega
              simp [e, e2])]
        have hsU : RkAt (wr.setCell ⟨W.heap.size, 0, none⟩ (.bool true)) w.heap.size { s with lost := s.lost + sqLost s.m b } := (RkAt.other hsh.out (by omega) 0 (.bool true)).to (rkA_congr _ _ rfl rfl (fun _ _ => rfl) rfl rfl (by
          have := up_lost s.m b hb0
          rw [if_neg hbig] at this
          simp only
          omega))
        have hoU : RkAt (wr.setCell ⟨W.heap.size, 0, none⟩ (.bool true)) (w.heap.size + 1) zS := RkAt.other hoh.out (by omega) 0 _
        have hBU : Below w.heap.size w (wr.setCell ⟨W.heap.size, 0, none⟩ (.bool true)) := hB.setCell (p := ⟨W.heap.size, 0, none⟩) (by show w.heap.size ≤ W.heap.size; omega) _
        clear hsh hmh hoh hB cl cc cz ct fl fz
        generalize wr.setCell ⟨W.heap.size, 0, none⟩ (.bool true) = U at hmU hsU hoU hBU ⊢
        have ct : U.cell? ⟨w.heap.size, 1, none⟩ = some (.int .u32 s.top) := by rw [cell_of_block hsU]; exact rkA_1 _
        have cc : U.cell? ⟨w.heap.size, 66, none⟩ = some (.int .i64 s.came) := by rw [cell_of_block hsU]; exact rkA_66 _
        have hthere : U.there w.heap.size 2 (mkA (onM (mvM s.m b.toNat) 0)).size := by
          intro j hj
          rw [mkA_size] at hj
          exact ⟨by rw [cell_of_block hsU, rkA_m _ j hj]; rfl, frozen_of_row U _ _ _ _ hsU⟩
        have hth := hide hthere
        have hmh := hide hmU
        have hsh := hide hsU
        clear hthere hmU hsU hsz hle hlo
        have hoh := hide hoU
        have hBh := hide hBU
        clear hoU hBU ct cc
        have ct : U.cell? ⟨w.heap.size, 1, none⟩ = some (.int .u32 s.top) := by rw [cell_of_block hsh.out]; exact rkA_1 _
        have cc : U.cell? ⟨w.heap.size, 66, none⟩ = some (.int .i64 s.came) := by rw [cell_of_block hsh.out]; exact rkA_66 _
        go_upto_region 28 with (first | (refine wpList_load_row rfl _ _ rfl _ rfl _ _ _ _ hmh.out Try.underlying28 rfl (mk_info _) ?_) | (refine Go.wpList_store_mid rfl _ _ _ rfl w.heap.size 2 (mkA (onM (mvM s.m b.toNat) 0)) rfl rfl hth.out (mk_info _) (mkA_one _) ?_; have hX := hsh.out.mid (onM (mvM s.m b.toNat) 0); have hoX := RkAt.otherCells (q := w.heap.size) (by omega) (mkA (onM (mvM s.m b.toNat) 0)).toList 2 U hoh.out; have hBX := below_setCells (p := w.heap.size) (Nat.le_refl _) (mkA (onM (mvM s.m b.toNat) 0)).toList 2 U hBh.out; revert hX hoX hBX; generalize World.setCells U _ _ _ = X; intro hX hoX hBX; have xt : X.cell? ⟨w.heap.size, 1, none⟩ = some (.int .u32 s.top) := (cell_of_block hX).trans (rkA_1 _); have xc : X.cell? ⟨w.heap.size, 66, none⟩ = some (.int .i64 s.came) := (cell_of_block hX).trans (rkA_66 _); have x1 : X.frozen? ⟨w.heap.size, 1, none⟩ = false := frozen_of_row X _ _ _ _ hX; have x2 : X.frozen? ⟨w.heap.size, 66, none⟩ = false := frozen_of_row X _ _ _ _ hX; have hXh := hide hX; have hoXh := hide hoX; have hBXh := hide hBX; clear hX hoX hBX))
        have hV2 : RkAt ((X.setCell ⟨w.heap.size, 1, none⟩ (.int .u32 n)).setCell ⟨w.heap.size, 66, none⟩ (.int .i64 (s.came + 1))) w.heap.size ⟨s.any, n, onM (mvM s.m b.toNat) 0, s.came + 1, s.tw, s.lost + sqLost s.m b⟩ := ((hXh.out.set1 n).set66 (s.came + 1)).to (rkA_congr _ _ rfl rfl (fun _ _ => rfl) rfl rfl rfl)
        have hoV : RkAt ((X.setCell ⟨w.heap.size, 1, none⟩ (.int .u32 n)).setCell ⟨w.heap.size, 66, none⟩ (.int .i64 (s.came + 1))) (w.heap.size + 1) zS := RkAt.other (RkAt.other hoXh.out (by omega) 1 _) (by omega) 66 _
        have hBV := (hBXh.out.setCell (p := ⟨w.heap.size, 1, none⟩) (Nat.le_refl _) (.int .u32 n)).setCell (p := ⟨w.heap.size, 66, none⟩) (Nat.le_refl _) (.int .i64 (s.came + 1))
        clear hXh hoXh hBXh xt xc x1 x2 hsh hmh hoh hBh hth
        generalize World.setCell (World.setCell X _ _) _ _ = Y at hV2 hoV hBV ⊢
        have hxr : Y.heap[w.heap.size]? = some (.cells (rkA ⟨s.any, n, onM (mvM s.m b.toNat) 0, s.came + 1, s.tw, s.lost + sqLost s.m b⟩) 30 (0, 0)) := hV2
        have hor : Y.heap[w.heap.size + 1]? = some (.cells (rkA zS) 30 (0, 0)) := hoV
        go_wp2_with (first | (refine wpList_load_row rfl _ _ rfl _ rfl _ _ _ _ hxr Try.underlying30 rfl (rk_info _) ?_) | (refine wpList_store_row rfl _ _ _ rfl _ _ rfl rfl _ _ hor (rk_info _) (rkA_sz _ _) (rkA_one _) ?_))
        refine bodyPost_ret (v := .tuple #[.agg (rkA ⟨s.any, n, onM (mvM s.m b.toNat) 0, s.came + 1, s.tw, s.lost + sqLost s.m b⟩), .int .i64 0]) ?hres rfl ?hpost
        case hpost => exact ⟨by first | rfl | (rw [ha]), below_setRow hBV (by omega) _⟩
        case hres =>
          refine results_row_tmp rfl _ _ (w.heap.size + 1) 30 (rkA ⟨s.any, n, onM (mvM s.m b.toNat) 0, s.came + 1, s.tw, s.lost + sqLost s.m b⟩) (0, 0) _ (.int .i64 0) rfl rfl ?hg Try.underlying30 rfl (rk_info _)
          case hg => rw [ha]; exact setRow_heap _ _ _ _ _ _ hor
end Go.Proofs.Ytickioeepicgcaa
