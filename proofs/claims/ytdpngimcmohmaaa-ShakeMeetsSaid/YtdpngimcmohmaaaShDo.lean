/- The law's do of layer 27: a call at both. Conditions: the state lies at the pointer; its numbers are of their kinds and not too great. -/
import Derived.Test.YtdpngimcmohmaaaShPlain
import Derived.Deep.MidRow
namespace Go.Proofs.Ytdpngimcmohmaaa
open Go.RowKit
set_option maxRecDepth 100000 in
theorem opA_c0 (o : OpS) : (opA o)[0]? = some (.int .i64 o.kind) := rfl
set_option maxRecDepth 100000 in
theorem opA_c12 (o : OpS) : (opA o)[12]? = some (.int .i64 o.n) := rfl
set_option maxRecDepth 100000 in
theorem opA_mid (o : OpS) : ((opA o).extract 1 (1 + 11)).toList = (dgA o.d).toList := rfl
/-- what lay, but for two blocks, lies as it lay -/
def TkE (Y : World) (g p : Nat) (w' : World) : Prop := (∀ k, k ≠ g → k ≠ p → k < Y.heap.size → blk w' k = blk Y k) ∧ Y.heap.size ≤ w'.heap.size
set_option maxRecDepth 100000 in
theorem TkE.refl (Y : World) (g p : Nat) : TkE Y g p Y := ⟨fun _ _ _ _ => rfl, Nat.le_refl _⟩
set_option maxRecDepth 100000 in
theorem TkE.drew (Y : World) (g p : Nat) : TkE Y g p Y.drew := ⟨fun _ _ _ _ => rfl, Nat.le_refl _⟩
set_option maxRecDepth 100000 in
theorem TkE.below {Y a b : World} {g p : Nat} (h : TkE Y g p a) (hb : Below a.heap.size a b) : TkE Y g p b := ⟨fun k h1 h2 h3 => (blk_below hb (Nat.lt_of_lt_of_le h3 h.2)).trans (h.1 k h1 h2 h3), Nat.le_trans h.2 hb.size⟩
set_option maxRecDepth 100000 in
theorem TkE.only {Y a b : World} {g p : Nat} (h : TkE Y g p a) (hb : a.grownBy b (some p)) : TkE Y g p b := ⟨fun k h1 h2 h3 => (only_blk hb (Nat.lt_of_lt_of_le h3 h.2) h2).trans (h.1 k h1 h2 h3), Nat.le_trans h.2 hb.size⟩
set_option maxRecDepth 100000 in
theorem TkE.setRow {Y a : World} {g p : Nat} (h : TkE Y g p a) (C : Array Value) : TkE Y g p (a.setRow g C) := ⟨fun k h1 h2 h3 => (show (a.setRow g C).heap[k]? = a.heap[k]? from setRow_other _ _ _ _ h1).trans (h.1 k h1 h2 h3), by rw [size_setRow]; exact h.2⟩
set_option maxRecDepth 100000 in
theorem s_start_all (p : Nat) (s : ShS) (w : World) (hs : ShAt w p s) (ok : ShOk s) :
    Calls Try.prog 10 #[.pointer (some ⟨p, 0, none⟩)] w (ShPost w p (shStart s).1 (.tuple #[dV (shStart s).2.1, .int .i64 (shStart s).2.2])) := by
  unfold shStart
  by_cases h : s.st = 0
  · rw [if_pos h]; exact s_start p s w hs ok h
  · rw [if_neg h]; exact s_start_no p s w hs h
set_option maxRecDepth 100000 in
theorem dgA_tok (t : Int) : dgA ⟨1, 0, 0, 0, 0, 0, t, 0, 0, 0, .slice none 0 0⟩ = dgmA 1 0 t := rfl
attribute [local irreducible] tokZ rsA dgmA dgA opA dBuild blk wLoad wLoadRes loadAns wStore wStoreRes storeAns Plain TkE
attribute [local go_sem ↓] dBuild_of ld_rs0 sto_rs0 ld_dg0 sto_dg0
attribute [local go_sem] dBuild_0 dBuild_5 dBuild_6 ld_rs sto_rs ld_dg sto_dg loadAns_some storeAns_some rs_size rs_plain dg_size dg_plain dgA_size blk_alloc_if blk_setRow_if blk_drew_at blk_drewN_at rowPut_some
set_option maxRecDepth 100000 in
set_option maxHeartbeats 4000000 in
theorem q_do_start (p : Nat) (s : ShS) (o : OpS) (w : World) (hs : ShAt w p s) (ok : ShOk s) (hk : o.kind = 0) :
    Calls Try.prog 14 #[.pointer (some ⟨p, 0, none⟩), .agg (rsA s), .agg (opA o)] w (LwPost w p (shStart s).1) := by
  have hT := fun y h => s_start_all p s y h ok
  have hR := fun y => r_start s y ok
  rcases hTe : shStart s with ⟨s2, ⟨x1, x2, x3⟩, c⟩
  rw [hTe] at hT hR
  have hTh : Hid (∀ y, ShAt y p s → Calls Try.prog 10 #[.pointer (some ⟨p, 0, none⟩)] y (ShPost y p s2 (.tuple #[.agg (dgmA x1 x2 x3), .int .i64 c]))) := hide hT
  have hRh : Hid (∀ y, Calls Try.prog 18 #[.agg (rsA s)] y (Ret y (.tuple #[.agg (rsA s2), .agg (dgmA x1 x2 x3), .int .i64 c]))) := hide hR
  clear hT hR hTe ok
  have hz := zeroDg
  have hz2 := zeroRs
  have hpl := (Array.getElem?_eq_some_iff.1 hs).1
  obtain ⟨b0, b1, b2, hsz, hB⟩ := three_boxes w (.cells (rsA s) 48) (.cells (opA o) 39) (.cells (rsA zRs) 48)
  have hs1 := ((hs.alloc (.cells (rsA s) 48)).alloc (.cells (opA o) 39)).alloc (.cells (rsA zRs) 48)
  have hon := only_alloc (only_alloc (only_alloc (only_refl w (some p)) (.cells (rsA s) 48)) (.cells (opA o) 39)) (.cells (rsA zRs) 48)
  go_enter Try.func14, Try.ntmps14
  go_upto_region 1 with (fail)
  generalize World.alloc (World.alloc (World.alloc w _) _) _ = W at *
  have b0h := Lib.hid b0
  have b1h := Lib.hid b1
  have b2h := Lib.hid b2
  have hs1h := Lib.hid hs1
  have honh := Lib.hid hon
  have hsW : w.heap.size + 3 ≤ W.heap.size := by omega
  have d0 : W.cell? ⟨w.heap.size + 1, 0, none⟩ = some (.int .i64 0) := (cell_of_block b1).trans (by rw [opA_c0, hk])
  clear b0 b1 b2 hB hs hs1 hon hsz hk
  clear b1h
  go_wp2_with fail
  refine (hTh.out W hs1h.out).mono ?_
  rintro e w1 ⟨rfl, hs2, hg2⟩
  have a0 := Lib.hid (blk_of ((only_blk hg2 (by omega) (by omega)).trans b0h.out))
  have a2 := Lib.hid (blk_of ((only_blk hg2 (by omega) (by omega)).trans b2h.out))
  have hs2h := Lib.hid hs2
  have hon2 := Lib.hid (only_trans honh.out hg2)
  have hsW1 : w.heap.size + 3 ≤ w1.heap.size := by have := hg2.size; omega
  clear hs2 hg2 b0h b2h hs1h honh hTh hsW
  go_upto_region 6 with (fail)
  obtain ⟨q1, q2, q3, q4⟩ := box_one w1 (dgmA 0 0 0) (dgmA x1 x2 x3) 34
  have m0 := (q2 _ (by omega)).trans a0.out
  have m2 := Lib.hid ((q2 _ (by omega)).trans a2.out)
  have m0h := Lib.hid m0
  have m3 := Lib.hid q1
  have hsv := Lib.hid (hs2h.out.below q4)
  have honv := Lib.hid (only_trans2 hon2.out q4)
  clear q1 q2 q4 a0 a2 hs2h hon2
  generalize World.setRow (World.alloc w1 _) _ _ = V at *
  have hgV : w1.heap.size < V.heap.size := by omega
  generalize w1.heap.size = g at *
  clear q3
  go_wp2_with fail
  refine (hRh.out V).mono ?_
  rintro e X ⟨rfl, hX⟩
  have n0 := Lib.hid ((blk_below hX (by omega)).trans m0h.out)
  have n2 := Lib.hid ((blk_below hX (by omega)).trans m2.out)
  have n3 := Lib.hid ((blk_below hX (by omega)).trans m3.out)
  have hsx := Lib.hid (hsv.out.below hX)
  have honx := Lib.hid (only_trans2 honv.out hX)
  have hsX : V.heap.size ≤ X.heap.size := hX.size
  clear hX m0 m0h m2 m3 hsv honv hRh
  go_upto_region 7 with (fail)
  obtain ⟨q1, q2, q3, q4, q5⟩ := box_two X (rsA zRs) (dgmA 0 0 0) (rsA s2) (dgmA x1 x2 x3) 48 34
  have o0 := Lib.hid ((q3 _ (by omega)).trans n0.out)
  have o2 := Lib.hid ((q3 _ (by omega)).trans n2.out)
  have o3 := Lib.hid ((q3 _ (by omega)).trans n3.out)
  have p1 := Lib.hid q1
  have p2 := Lib.hid q2
  have hsy := Lib.hid (hsx.out.below q5)
  have hony := Lib.hid (only_trans2 honx.out q5)
  clear q1 q2 q3 q5 n0 n2 n3 hsx honx
  generalize World.setRow (World.setRow (World.alloc (World.alloc X _) _) _ _) _ _ = Y at *
  generalize hXe : X.heap.size = xs at *
  have hxY : xs + 2 ≤ Y.heap.size := by omega
  clear q4 hXe
  have hS1 : Hid (∀ w' : World, TkE Y (w.heap.size + 1 + 1) p w' → (blk w' xs = some (.cells (rsA s2) 48 (0, 0)) ∧ blk w' g = some (.cells (dgmA x1 x2 x3) 34 (0, 0)) ∧ blk w' (xs + 1) = some (.cells (dgmA x1 x2 x3) 34 (0, 0)) ∧ TkE Y (w.heap.size + 1 + 1) p w')) := hide (fun w' hb => by
    have hb2 := hb
    unfold TkE at hb2
    exact ⟨(hb2.1 _ (by omega) (by omega) (by omega)).trans p1.out, (hb2.1 _ (by omega) (by omega) (by omega)).trans o3.out, (hb2.1 _ (by omega) (by omega) (by omega)).trans p2.out, hb⟩)
  have o2d : Hid (blk Y.drew (w.heap.size + 1 + 1) = some (.cells (rsA zRs) 48 (0, 0))) := hide ((blk_drew_at Y _).trans o2.out)
  have hlt2 : w.heap.size + 1 + 1 < Y.drew.heap.size := by show _ < Y.heap.size; omega
  have hDs := Lib.hid (fun y => r_dsame x1 x2 x3 y)
  have hcc : (c == c) = true := by simp
  clear hz hz2
  go_region_held3 (fun w' => blk w' xs = some (.cells (rsA s2) 48 (0, 0)) ∧ blk w' g = some (.cells (dgmA x1 x2 x3) 34 (0, 0)) ∧ blk w' (xs + 1) = some (.cells (dgmA x1 x2 x3) 34 (0, 0)) ∧ TkE Y (w.heap.size + 1 + 1) p w')
    (first | (refine hS1.out _ ?_; exact TkE.drew _ _ _) | (go_split_ands; refine hS1.out _ ?_; first | exact TkE.below (by assumption) (by assumption) | exact TkE.setRow (by assumption) _))
    (first | (go_at_call 19; refine (hDs.out _).mono ?_; rintro e w1 ⟨rfl, hb1⟩; have hz1 := (blk_below hb1 hlt2).trans o2d.out))
  all_goals
    go_wp2_with fail
    exact rs_ret1 rfl hz1 ((show ShAt Y.drew p s2 from hsy.out).below hb1) (only_trans2 (only_drew hony.out) hb1) (by omega) (by omega) rfl rfl rfl
set_option maxRecDepth 100000 in
set_option maxHeartbeats 4000000 in
theorem q_do_take (p : Nat) (s : ShS) (o : OpS) (w : World) (hs : ShAt w p s) (ok : ShOk s) (hk : o.kind = 2) :
    Calls Try.prog 14 #[.pointer (some ⟨p, 0, none⟩), .agg (rsA s), .agg (opA o)] w (LwPost w p (shTake s o.d.kind o.d.a o.d.b).1) := by
  have hT := Lib.hid (fun y h => q_take p s o.d y h ok)
  generalize (shTake s o.d.kind o.d.a o.d.b).1 = s2 at *
  have hz := zeroDg
  have hz2 := zeroRs
  have hpl := (Array.getElem?_eq_some_iff.1 hs).1
  obtain ⟨b0, b1, b2, hsz, hB⟩ := three_boxes w (.cells (rsA s) 48) (.cells (opA o) 39) (.cells (rsA zRs) 48)
  have hs1 := ((hs.alloc (.cells (rsA s) 48)).alloc (.cells (opA o) 39)).alloc (.cells (rsA zRs) 48)
  have hon := only_alloc (only_alloc (only_alloc (only_refl w (some p)) (.cells (rsA s) 48)) (.cells (opA o) 39)) (.cells (rsA zRs) 48)
  go_enter Try.func14, Try.ntmps14
  go_upto_region 1 with (fail)
  generalize World.alloc (World.alloc (World.alloc w _) _) _ = W at *
  have b0h := Lib.hid b0
  have b1h := Lib.hid b1
  have b2h := Lib.hid b2
  have hs1h := Lib.hid hs1
  have honh := Lib.hid hon
  have hsW : w.heap.size + 3 ≤ W.heap.size := by omega
  have hm : (wLoad 34 (.pointer (some ⟨w.heap.size + 1, 1, none⟩))).run Try.prog W = .ok (.agg (dgA o.d)) W := by
    have h := World.rangeAt_of_block b1 1 11
    rw [opA_mid] at h
    have h2 := run_loadAt_mid (P := Try.prog) W (w.heap.size + 1) 1 34 _ _ h Try.underlying34 rfl (by rw [Array.length_toList, dgA_size]; exact dgm_info11)
    rw [ld_dg0] at h2
    simpa using h2
  have k0 := blk_of b0
  have d0 : W.cell? ⟨w.heap.size + 1, 0, none⟩ = some (.int .i64 2) := (cell_of_block b1).trans (by rw [opA_c0, hk])
  clear b0 b1 b2 hB hs hs1 hon hsz hk
  go_wp2_with fail
  refine (hT.out W hs1h.out).mono ?_
  rintro e w1 ⟨rfl, hs2, hg2⟩
  have k2 := blk_of ((only_blk hg2 (by omega) (by omega)).trans b2h.out)
  have hs2h := Lib.hid hs2
  have hon2 := Lib.hid (only_trans honh.out hg2)
  clear hs2 hg2 b0h b1h b2h hs1h honh hT k0 hm d0
  go_wp2_with fail
  exact rs_ret1 rfl k2 hs2h.out hon2.out (by omega) (by omega) rfl rfl rfl
set_option maxRecDepth 100000 in
set_option maxHeartbeats 4000000 in
theorem q_do_end (p : Nat) (s : ShS) (o : OpS) (w : World) (hs : ShAt w p s) (ok : ShOk s) (hk : o.kind = 3) :
    Calls Try.prog 14 #[.pointer (some ⟨p, 0, none⟩), .agg (rsA s), .agg (opA o)] w (LwPost w p { s with st := 3 }) := by
  obtain ⟨b, hb⟩ : ∃ b, (s.st != 3) = b := ⟨_, rfl⟩
  have hE := fun y h => s_end p s y h
  rw [hb] at hE
  have hEh := Lib.hid hE
  clear hE
  have hz := zeroDg
  have hz2 := zeroRs
  have hpl := (Array.getElem?_eq_some_iff.1 hs).1
  obtain ⟨b0, b1, b2, hsz, hB⟩ := three_boxes w (.cells (rsA s) 48) (.cells (opA o) 39) (.cells (rsA zRs) 48)
  have hs1 := ((hs.alloc (.cells (rsA s) 48)).alloc (.cells (opA o) 39)).alloc (.cells (rsA zRs) 48)
  have hon := only_alloc (only_alloc (only_alloc (only_refl w (some p)) (.cells (rsA s) 48)) (.cells (opA o) 39)) (.cells (rsA zRs) 48)
  go_enter Try.func14, Try.ntmps14
  go_upto_region 1 with (fail)
  generalize World.alloc (World.alloc (World.alloc w _) _) _ = W at *
  have b0h := Lib.hid b0
  have b1h := Lib.hid b1
  have b2h := Lib.hid b2
  have hs1h := Lib.hid hs1
  have honh := Lib.hid hon
  have hsW : w.heap.size + 3 ≤ W.heap.size := by omega
  have c0 : W.cell? ⟨w.heap.size, 0, none⟩ = some (.int .i64 s.st) := (cell_of_block b0).trans (rsA_c0 s)
  have f0 : W.frozen? ⟨w.heap.size, 0, none⟩ = false := frozen_of_row W _ 0 _ _ b0
  have d0 : W.cell? ⟨w.heap.size + 1, 0, none⟩ = some (.int .i64 3) := (cell_of_block b1).trans (by rw [opA_c0, hk])
  clear b0 b1 b2 hB hs hs1 hon hsz hk
  go_upto_region 13 with (fail)
  have k0 : blk (W.setCell ⟨w.heap.size, 0, none⟩ (.int .i64 3)) w.heap.size = some (.cells (rsA { s with st := 3 }) 48 (0, 0)) := by
    refine blk_of ?_
    rw [blk_set b0h.out 0 _, rsA_s0]
  have k2 : blk (W.setCell ⟨w.heap.size, 0, none⟩ (.int .i64 3)) (w.heap.size + 1 + 1) = some (.cells (rsA zRs) 48 (0, 0)) := by
    rw [blk_setCell_ne _ _ _ _ _ (by omega)]; exact blk_of b2h.out
  have hsv : ShAt (W.setCell ⟨w.heap.size, 0, none⟩ (.int .i64 3)) p s := (heap_setCell_other W ⟨w.heap.size, 0, none⟩ p _ (by show p ≠ w.heap.size; omega)).trans hs1h.out
  have honv : w.grownBy (W.setCell ⟨w.heap.size, 0, none⟩ (.int .i64 3)) (some p) := only_setCell honh.out (.inr (Nat.le_refl _)) _
  have hsV : w.heap.size + 3 ≤ (W.setCell ⟨w.heap.size, 0, none⟩ (.int .i64 3)).heap.size := by simpa [World.setCell] using hsW
  clear c0 f0 d0 b0h b1h b2h hs1h honh hsW hb
  generalize World.setCell W _ _ = Y at *
  have k0h := Lib.hid k0
  have k2h := Lib.hid ((blk_drew_at Y _).trans k2)
  have hsvh := Lib.hid (show ShAt Y.drew p s from hsv)
  have honvh := Lib.hid (only_drew honv)
  have hlt2 : w.heap.size + 1 + 1 < Y.drew.heap.size := by show _ < Y.heap.size; omega
  clear k0 k2 hsv honv hz hz2
  have hS1 : Hid (∀ w' : World, TkE Y (w.heap.size + 1 + 1) p w' → (blk w' w.heap.size = some (.cells (rsA { s with st := 3 }) 48 (0, 0)) ∧ TkE Y (w.heap.size + 1 + 1) p w')) := hide (fun w' hb => by
    have hb2 := hb
    unfold TkE at hb2
    exact ⟨(hb2.1 _ (by omega) (by omega) (by omega)).trans k0h.out, hb⟩)
  cases b
  all_goals
    go_region_held3 (fun w' => blk w' w.heap.size = some (.cells (rsA { s with st := 3 }) 48 (0, 0)) ∧ TkE Y (w.heap.size + 1 + 1) p w')
      (first | (refine hS1.out _ ?_; exact TkE.drew _ _ _) | (go_split_ands; refine hS1.out _ ?_; first | exact TkE.only (by assumption) (by assumption) | exact TkE.setRow (by assumption) _))
      (first | (go_at_call 21; refine (hEh.out _ hsvh.out).mono ?_; rintro e w1 ⟨rfl, hs2, hg2⟩; have hz1 := blk_of ((only_blk hg2 hlt2 (by omega)).trans (blk_heap k2h.out)); have hs2h := Lib.hid hs2; clear hs2))
    all_goals
      go_wp2_with fail
      exact rs_ret1 rfl hz1 hs2h.out (only_trans honvh.out hg2) (by omega) (by omega) rfl rfl rfl
set_option maxRecDepth 100000 in
set_option maxHeartbeats 4000000 in
theorem q_do_right (p : Nat) (s : ShS) (o : OpS) (w : World) (hs : ShAt w p s) (ok : ShOk s) (hk : o.kind = 4) :
    Calls Try.prog 14 #[.pointer (some ⟨p, 0, none⟩), .agg (rsA s), .agg (opA o)] w (LwPost w p (shTake s 1 0 (tokZ s.own s.rd)).1) := by
  have hT : Hid (∀ y, ShAt y p s → Calls Try.prog 20 #[.pointer (some ⟨p, 0, none⟩), .agg (rsA s), .agg (dgmA 1 0 (tokZ s.own s.rd))] y (LwPost y p (shTake s 1 0 (tokZ s.own s.rd)).1)) := hide (fun y h => by
    have h2 := q_take p s ⟨1, 0, 0, 0, 0, 0, tokZ s.own s.rd, 0, 0, 0, .slice none 0 0⟩ y h ok
    rw [dgA_tok] at h2
    exact h2)
  have ho1 := ok.o1
  have ho2 := ok.o2
  generalize (shTake s 1 0 (tokZ s.own s.rd)).1 = s2 at *
  have hz := zeroDg
  have hz2 := zeroRs
  have hpl := (Array.getElem?_eq_some_iff.1 hs).1
  obtain ⟨b0, b1, b2, hsz, hB⟩ := three_boxes w (.cells (rsA s) 48) (.cells (opA o) 39) (.cells (rsA zRs) 48)
  have hs1 := ((hs.alloc (.cells (rsA s) 48)).alloc (.cells (opA o) 39)).alloc (.cells (rsA zRs) 48)
  have hon := only_alloc (only_alloc (only_alloc (only_refl w (some p)) (.cells (rsA s) 48)) (.cells (opA o) 39)) (.cells (rsA zRs) 48)
  go_enter Try.func14, Try.ntmps14
  go_upto_region 1 with (fail)
  generalize World.alloc (World.alloc (World.alloc w _) _) _ = W at *
  have b0h := Lib.hid b0
  have b1h := Lib.hid b1
  have b2h := Lib.hid b2
  have hs1h := Lib.hid hs1
  have honh := Lib.hid hon
  have hsW : w.heap.size + 3 ≤ W.heap.size := by omega
  have d0 : W.cell? ⟨w.heap.size + 1, 0, none⟩ = some (.int .i64 4) := (cell_of_block b1).trans (by rw [opA_c0, hk])
  clear b0 b1 b2 hB hs hs1 hon hsz hk
  go_upto_region 15 with (fail)
  have k2h : Hid (blk W.drew (w.heap.size + 1 + 1) = some (.cells (rsA zRs) 48 (0, 0))) := hide ((blk_drew_at W _).trans (blk_of b2h.out))
  have k0h := Lib.hid (blk_of b0h.out)
  have hsvh := Lib.hid (show ShAt W.drew p s from hs1h.out)
  have honvh := Lib.hid (only_drew honh.out)
  have hlt2 : w.heap.size + 1 + 1 < W.drew.heap.size := by show _ < W.heap.size; omega
  clear d0 b0h b1h b2h hs1h honh hz2 hz
  have hS1 : Hid (∀ w' : World, TkE W (w.heap.size + 1 + 1) p w' → (blk w' w.heap.size = some (.cells (rsA s) 48 (0, 0)) ∧ w'.cell? ⟨w.heap.size, 1, none⟩ = some (.int .u32 s.own) ∧ w'.cell? ⟨w.heap.size, 3, none⟩ = some (.int .i64 s.rd) ∧ TkE W (w.heap.size + 1 + 1) p w')) := hide (fun w' hb => by
    have hb2 := hb
    unfold TkE at hb2
    have hb3 := (hb2.1 _ (by omega) (by omega) (by omega)).trans k0h.out
    exact ⟨hb3, (cell_of_block (blk_heap hb3)).trans (rsA_c1 s), (cell_of_block (blk_heap hb3)).trans (rsA_c3 s), hb⟩)
  go_region_held3 (fun w' => blk w' w.heap.size = some (.cells (rsA s) 48 (0, 0)) ∧ w'.cell? ⟨w.heap.size, 1, none⟩ = some (.int .u32 s.own) ∧ w'.cell? ⟨w.heap.size, 3, none⟩ = some (.int .i64 s.rd) ∧ TkE W (w.heap.size + 1 + 1) p w')
    (first | (refine hS1.out _ ?_; exact TkE.drew _ _ _) | (go_split_ands; refine hS1.out _ ?_; first | assumption | exact TkE.only (by assumption) (by assumption) | exact TkE.setRow (by assumption) _))
    (first | (go_at_call 8; refine (r_token s.own s.rd _ ho1 ho2).mono ?_; rintro e w' ⟨rfl, rfl⟩) | (go_at_call 20; refine (hT.out _ hsvh.out).mono ?_; rintro e w1 ⟨rfl, hs2, hg2⟩; have hz1 := blk_of ((only_blk hg2 hlt2 (by omega)).trans (blk_heap k2h.out)); have hs2h := Lib.hid hs2; clear hs2))
  all_goals
    go_wp2_with fail
    exact rs_ret1 rfl hz1 hs2h.out (only_trans honvh.out hg2) (by omega) (by omega) rfl rfl rfl
/-- what the loop of ticks leans on -/
def DoAt (w wr : World) (p : Nat) (s : ShS) : Prop := ShAt wr p s ∧ w.grownBy wr (some p) ∧ wr.heap[w.heap.size]? = some (.cells (rsA s) 48 (0, 0)) ∧ wr.heap[w.heap.size + 1 + 1]? = some (.cells (rsA zRs) 48 (0, 0)) ∧ w.heap.size + 3 ≤ wr.heap.size
set_option maxRecDepth 100000 in
theorem DoAt.next {w wr w1 Y : World} {p : Nat} {s s2 : ShS} (h0 : blk Y w.heap.size = some (.cells (rsA s) 48 (0, 0))) (h2 : blk Y (w.heap.size + 1 + 1) = some (.cells (rsA zRs) 48 (0, 0))) (hs : ShAt Y p s2) (hon : w.grownBy Y (some p)) (hp : p < w.heap.size) (hz : w.heap.size + 3 ≤ Y.heap.size) :
    DoAt w (Y.setRow w.heap.size (rsA s2)) p s2 :=
  ⟨hs.setRow (by omega) _, only_setRow hon (.inr (Nat.le_refl _)) _, setRow_heap _ _ _ _ _ _ (blk_heap h0), (setRow_other _ _ _ _ (by omega)).trans (blk_heap h2), by rw [size_setRow]; exact hz⟩
set_option maxRecDepth 100000 in
set_option maxHeartbeats 4000000 in
theorem q_do_few (p : Nat) (s : ShS) (o : OpS) (w : World) (hs : ShAt w p s) (c : Int) (hB9 : ShB s c) (hc9 : c ≤ 900000) (hk : o.kind = 5) (hn1 : o.n ≤ 40) :
    Calls Try.prog 14 #[.pointer (some ⟨p, 0, none⟩), .agg (rsA s), .agg (opA o)] w (LwPost w p (tickN (o.n : Int).toNat s)) := by
  have hz := zeroDg
  have hz2 := zeroRs
  have hpl := (Array.getElem?_eq_some_iff.1 hs).1
  obtain ⟨b0, b1, b2, hsz, hB⟩ := three_boxes w (.cells (rsA s) 48) (.cells (opA o) 39) (.cells (rsA zRs) 48)
  have hs1 := ((hs.alloc (.cells (rsA s) 48)).alloc (.cells (opA o) 39)).alloc (.cells (rsA zRs) 48)
  have hon := only_alloc (only_alloc (only_alloc (only_refl w (some p)) (.cells (rsA s) 48)) (.cells (opA o) 39)) (.cells (rsA zRs) 48)
  go_enter Try.func14, Try.ntmps14
  go_upto_region 1 with (fail)
  generalize World.alloc (World.alloc (World.alloc w _) _) _ = W at *
  have b0h := Lib.hid b0
  have b1h := Lib.hid b1
  have b2h := Lib.hid b2
  have hs1h := Lib.hid hs1
  have honh := Lib.hid hon
  have hsW : w.heap.size + 3 ≤ W.heap.size := by omega
  have d12 : W.cell? ⟨w.heap.size + 1, 12, none⟩ = some (.int .i64 o.n) := (cell_of_block b1).trans (opA_c12 o)
  have d0 : W.cell? ⟨w.heap.size + 1, 0, none⟩ = some (.int .i64 5) := (cell_of_block b1).trans (by rw [opA_c0, hk])
  clear b0 b1 b2 hB hs hs1 hon hsz hk
  go_upto_region 19 with (fail)
  have hst : Hid (DoAt w W p s) := hide ⟨hs1h.out, honh.out, b0h.out, b2h.out, hsW⟩
  clear b0h b1h b2h hs1h honh d0
  go_wp2_with fail
  have htn0 : Hid (tickN 0 s = s) := hide rfl
  go_loopw [15] (fun v15 wr => ∃ k : Nat, k ≤ (o.n : Int).toNat ∧ v15 = .int .i64 (k : Nat) ∧ Hid (DoAt w wr p (tickN k s))) (fun v15 _ => (o.n : Int).toNat - (intOf v15).toNat)
  case atStart => exact ⟨0, Nat.zero_le _, rfl, hide (by rw [htn0.out]; exact hst.out)⟩
  case round =>
    obtain ⟨k, hk, rfl, hD⟩ := hrel
    clear hst htn0
    obtain ⟨hs9, hon9, b09, b29, hsW⟩ := hD.out
    have b0h := Lib.hid b09
    have b2h := Lib.hid b29
    have hs1h := Lib.hid hs9
    have honh := Lib.hid hon9
    clear hs9 hon9 b09 b29
    by_cases hlt : k < (o.n : Int).toNat
    · have i1 : decide ((k : Int) < o.n) = true := decide_eq_true (by omega)
      have hbk := hB9.tickN k
      have hnx : Hid (tickN (k + 1) s = (shTick (tickN k s)).1) := hide rfl
      clear hD
      generalize tickN k s = s1 at *
      have hT := fun y h => s_tick p s1 y h (hbk.ok (by omega)) (by have := hbk.q2; omega)
      have hR := fun y => r_tick s1 y (hbk.ok (by omega)) (by have := hbk.q2; omega)
      rcases hTe : shTick s1 with ⟨s2, ⟨x1, x2, x3⟩, c⟩
      rw [hTe] at hT hR hnx
      have hTh : Hid (∀ y, ShAt y p s1 → Calls Try.prog 11 #[.pointer (some ⟨p, 0, none⟩)] y (ShPost y p s2 (.tuple #[.agg (dgmA x1 x2 x3), .bool c]))) := hide hT
      have hRh : Hid (∀ y, Calls Try.prog 22 #[.agg (rsA s1)] y (Ret y (.tuple #[.agg (rsA s2), .agg (dgmA x1 x2 x3), .bool c]))) := hide hR
      clear hT hR hTe hbk
      go_wp2_with fail
      refine (hTh.out wr hs1h.out).mono ?_
      rintro e w1 ⟨rfl, hs2, hg2⟩
      have a0 := Lib.hid (blk_of ((only_blk hg2 (by omega) (by omega)).trans b0h.out))
      have a2 := Lib.hid (blk_of ((only_blk hg2 (by omega) (by omega)).trans b2h.out))
      have hs2h := Lib.hid hs2
      have hon2 := Lib.hid (only_trans honh.out hg2)
      have hsW1 : w.heap.size + 3 ≤ w1.heap.size := by have := hg2.size; omega
      clear hs2 hg2 b0h b2h hs1h honh hTh hsW
      go_upto_region 23 with (fail)
      obtain ⟨q1, q2, q3, q4⟩ := box_one w1 (dgmA 0 0 0) (dgmA x1 x2 x3) 34
      have m0 := (q2 _ (by omega)).trans a0.out
      have m2 := Lib.hid ((q2 _ (by omega)).trans a2.out)
      have m0h := Lib.hid m0
      have m3 := Lib.hid q1
      have hsv := Lib.hid (hs2h.out.below q4)
      have honv := Lib.hid (only_trans2 hon2.out q4)
      clear q1 q2 q4 a0 a2 hs2h hon2
      generalize World.setRow (World.alloc w1 _) _ _ = V at *
      have hgV : w1.heap.size < V.heap.size := by omega
      generalize w1.heap.size = g at *
      clear q3
      go_wp2_with fail
      refine (hRh.out V).mono ?_
      rintro e X ⟨rfl, hX⟩
      have n0 := Lib.hid ((blk_below hX (by omega)).trans m0h.out)
      have n2 := Lib.hid ((blk_below hX (by omega)).trans m2.out)
      have n3 := Lib.hid ((blk_below hX (by omega)).trans m3.out)
      have hsx := Lib.hid (hsv.out.below hX)
      have honx := Lib.hid (only_trans2 honv.out hX)
      have hsX : V.heap.size ≤ X.heap.size := hX.size
      clear hX m0 m0h m2 m3 hsv honv hRh
      go_upto_region 24 with (fail)
      obtain ⟨q1, q2, q3, q4, q5⟩ := box_two X (rsA zRs) (dgmA 0 0 0) (rsA s2) (dgmA x1 x2 x3) 48 34
      have o0 := Lib.hid ((q3 _ (by omega)).trans n0.out)
      have o2 := Lib.hid ((q3 _ (by omega)).trans n2.out)
      have o3 := Lib.hid ((q3 _ (by omega)).trans n3.out)
      have p1 := Lib.hid q1
      have p2 := Lib.hid q2
      have hsy := Lib.hid (hsx.out.below q5)
      have hony := Lib.hid (only_trans2 honx.out q5)
      clear q1 q2 q3 q5 n0 n2 n3 hsx honx
      generalize World.setRow (World.setRow (World.alloc (World.alloc X _) _) _ _) _ _ = Y at *
      generalize hXe : X.heap.size = xs at *
      have hxY : xs + 2 ≤ Y.heap.size := by omega
      clear q4 hXe
      have k0 := o0.out
      have k1 := p1.out
      have k3 := o3.out
      have k4 := p2.out
      have hDs := Lib.hid (fun y => r_dsame x1 x2 x3 y)
      cases c
      all_goals
        go_wp2_with fail
        refine (hDs.out _).mono ?_
        rintro e Z ⟨rfl, hZ⟩
        have j0 := (blk_below hZ (by omega)).trans o0.out
        have j1 := (blk_below hZ (by omega)).trans p1.out
        have j2 := Lib.hid ((blk_below hZ (by omega)).trans o2.out)
        have hsz := Lib.hid (hsy.out.below hZ)
        have honz := Lib.hid (only_trans2 hony.out hZ)
        have hsZ : w.heap.size + 3 ≤ Z.heap.size := by have := hZ.size; omega
        clear hZ k0 k1 k3 k4 o0 o2 o3 p1 p2 hsy hony hDs
        go_wp2_with fail
        go_roundw
        case rel => exact ⟨k + 1, by omega, by go_num, hide (by rw [hnx.out]; exact DoAt.next (wr := Z) (w1 := Z) j0 j2.out hsz.out honz.out (by omega) hsZ)⟩
        case measure => simp [intOf]; omega
    · obtain rfl : k = (o.n : Int).toNat := by omega
      have i1 : decide ((((o.n : Int).toNat : Nat) : Int) < o.n) = false := decide_eq_false (by omega)
      have k0 := blk_of b0h.out
      have k2 := blk_of b2h.out
      generalize hNN : (o.n : Int).toNat = NN at *
      clear hD
      go_wp2_with fail
      exact rs_ret1 rfl k2 hs1h.out honh.out (by omega) (by omega) rfl rfl rfl
set_option maxRecDepth 100000 in
set_option maxHeartbeats 4000000 in
theorem q_do_many (p : Nat) (s : ShS) (o : OpS) (w : World) (hs : ShAt w p s) (c : Int) (hB9 : ShB s c) (hc9 : c ≤ 900000) (hk : o.kind = 5) (hn1 : 40 < o.n) :
    Calls Try.prog 14 #[.pointer (some ⟨p, 0, none⟩), .agg (rsA s), .agg (opA o)] w (LwPost w p (tickN (40 : Int).toNat s)) := by
  have hz := zeroDg
  have hz2 := zeroRs
  have hpl := (Array.getElem?_eq_some_iff.1 hs).1
  obtain ⟨b0, b1, b2, hsz, hB⟩ := three_boxes w (.cells (rsA s) 48) (.cells (opA o) 39) (.cells (rsA zRs) 48)
  have hs1 := ((hs.alloc (.cells (rsA s) 48)).alloc (.cells (opA o) 39)).alloc (.cells (rsA zRs) 48)
  have hon := only_alloc (only_alloc (only_alloc (only_refl w (some p)) (.cells (rsA s) 48)) (.cells (opA o) 39)) (.cells (rsA zRs) 48)
  go_enter Try.func14, Try.ntmps14
  go_upto_region 1 with (fail)
  generalize World.alloc (World.alloc (World.alloc w _) _) _ = W at *
  have b0h := Lib.hid b0
  have b1h := Lib.hid b1
  have b2h := Lib.hid b2
  have hs1h := Lib.hid hs1
  have honh := Lib.hid hon
  have hsW : w.heap.size + 3 ≤ W.heap.size := by omega
  have d12 : W.cell? ⟨w.heap.size + 1, 12, none⟩ = some (.int .i64 o.n) := (cell_of_block b1).trans (opA_c12 o)
  have d0 : W.cell? ⟨w.heap.size + 1, 0, none⟩ = some (.int .i64 5) := (cell_of_block b1).trans (by rw [opA_c0, hk])
  clear b0 b1 b2 hB hs hs1 hon hsz hk
  go_upto_region 19 with (fail)
  have hst : Hid (DoAt w W p s) := hide ⟨hs1h.out, honh.out, b0h.out, b2h.out, hsW⟩
  clear b0h b1h b2h hs1h honh d0
  go_wp2_with fail
  have htn0 : Hid (tickN 0 s = s) := hide rfl
  go_loopw [15] (fun v15 wr => ∃ k : Nat, k ≤ (40 : Int).toNat ∧ v15 = .int .i64 (k : Nat) ∧ Hid (DoAt w wr p (tickN k s))) (fun v15 _ => (40 : Int).toNat - (intOf v15).toNat)
  case atStart => exact ⟨0, Nat.zero_le _, rfl, hide (by rw [htn0.out]; exact hst.out)⟩
  case round =>
    obtain ⟨k, hk, rfl, hD⟩ := hrel
    clear hst htn0
    obtain ⟨hs9, hon9, b09, b29, hsW⟩ := hD.out
    have b0h := Lib.hid b09
    have b2h := Lib.hid b29
    have hs1h := Lib.hid hs9
    have honh := Lib.hid hon9
    clear hs9 hon9 b09 b29
    by_cases hlt : k < (40 : Int).toNat
    · have i1 : decide ((k : Int) < 40) = true := decide_eq_true (by omega)
      have hbk := hB9.tickN k
      have hnx : Hid (tickN (k + 1) s = (shTick (tickN k s)).1) := hide rfl
      clear hD
      generalize tickN k s = s1 at *
      have hT := fun y h => s_tick p s1 y h (hbk.ok (by omega)) (by have := hbk.q2; omega)
      have hR := fun y => r_tick s1 y (hbk.ok (by omega)) (by have := hbk.q2; omega)
      rcases hTe : shTick s1 with ⟨s2, ⟨x1, x2, x3⟩, c⟩
      rw [hTe] at hT hR hnx
      have hTh : Hid (∀ y, ShAt y p s1 → Calls Try.prog 11 #[.pointer (some ⟨p, 0, none⟩)] y (ShPost y p s2 (.tuple #[.agg (dgmA x1 x2 x3), .bool c]))) := hide hT
      have hRh : Hid (∀ y, Calls Try.prog 22 #[.agg (rsA s1)] y (Ret y (.tuple #[.agg (rsA s2), .agg (dgmA x1 x2 x3), .bool c]))) := hide hR
      clear hT hR hTe hbk
      go_wp2_with fail
      refine (hTh.out wr hs1h.out).mono ?_
      rintro e w1 ⟨rfl, hs2, hg2⟩
      have a0 := Lib.hid (blk_of ((only_blk hg2 (by omega) (by omega)).trans b0h.out))
      have a2 := Lib.hid (blk_of ((only_blk hg2 (by omega) (by omega)).trans b2h.out))
      have hs2h := Lib.hid hs2
      have hon2 := Lib.hid (only_trans honh.out hg2)
      have hsW1 : w.heap.size + 3 ≤ w1.heap.size := by have := hg2.size; omega
      clear hs2 hg2 b0h b2h hs1h honh hTh hsW
      go_upto_region 23 with (fail)
      obtain ⟨q1, q2, q3, q4⟩ := box_one w1 (dgmA 0 0 0) (dgmA x1 x2 x3) 34
      have m0 := (q2 _ (by omega)).trans a0.out
      have m2 := Lib.hid ((q2 _ (by omega)).trans a2.out)
      have m0h := Lib.hid m0
      have m3 := Lib.hid q1
      have hsv := Lib.hid (hs2h.out.below q4)
      have honv := Lib.hid (only_trans2 hon2.out q4)
      clear q1 q2 q4 a0 a2 hs2h hon2
      generalize World.setRow (World.alloc w1 _) _ _ = V at *
      have hgV : w1.heap.size < V.heap.size := by omega
      generalize w1.heap.size = g at *
      clear q3
      go_wp2_with fail
      refine (hRh.out V).mono ?_
      rintro e X ⟨rfl, hX⟩
      have n0 := Lib.hid ((blk_below hX (by omega)).trans m0h.out)
      have n2 := Lib.hid ((blk_below hX (by omega)).trans m2.out)
      have n3 := Lib.hid ((blk_below hX (by omega)).trans m3.out)
      have hsx := Lib.hid (hsv.out.below hX)
      have honx := Lib.hid (only_trans2 honv.out hX)
      have hsX : V.heap.size ≤ X.heap.size := hX.size
      clear hX m0 m0h m2 m3 hsv honv hRh
      go_upto_region 24 with (fail)
      obtain ⟨q1, q2, q3, q4, q5⟩ := box_two X (rsA zRs) (dgmA 0 0 0) (rsA s2) (dgmA x1 x2 x3) 48 34
      have o0 := Lib.hid ((q3 _ (by omega)).trans n0.out)
      have o2 := Lib.hid ((q3 _ (by omega)).trans n2.out)
      have o3 := Lib.hid ((q3 _ (by omega)).trans n3.out)
      have p1 := Lib.hid q1
      have p2 := Lib.hid q2
      have hsy := Lib.hid (hsx.out.below q5)
      have hony := Lib.hid (only_trans2 honx.out q5)
      clear q1 q2 q3 q5 n0 n2 n3 hsx honx
      generalize World.setRow (World.setRow (World.alloc (World.alloc X _) _) _ _) _ _ = Y at *
      generalize hXe : X.heap.size = xs at *
      have hxY : xs + 2 ≤ Y.heap.size := by omega
      clear q4 hXe
      have k0 := o0.out
      have k1 := p1.out
      have k3 := o3.out
      have k4 := p2.out
      have hDs := Lib.hid (fun y => r_dsame x1 x2 x3 y)
      cases c
      all_goals
        go_wp2_with fail
        refine (hDs.out _).mono ?_
        rintro e Z ⟨rfl, hZ⟩
        have j0 := (blk_below hZ (by omega)).trans o0.out
        have j1 := (blk_below hZ (by omega)).trans p1.out
        have j2 := Lib.hid ((blk_below hZ (by omega)).trans o2.out)
        have hsz := Lib.hid (hsy.out.below hZ)
        have honz := Lib.hid (only_trans2 hony.out hZ)
        have hsZ : w.heap.size + 3 ≤ Z.heap.size := by have := hZ.size; omega
        clear hZ k0 k1 k3 k4 o0 o2 o3 p1 p2 hsy hony hDs
        go_wp2_with fail
        go_roundw
        case rel => exact ⟨k + 1, by omega, by go_num, hide (by rw [hnx.out]; exact DoAt.next (wr := Z) (w1 := Z) j0 j2.out hsz.out honz.out (by omega) hsZ)⟩
        case measure => simp [intOf]; omega
    · obtain rfl : k = (40 : Int).toNat := by omega
      have i1 : decide ((((40 : Int).toNat : Nat) : Int) < 40) = false := decide_eq_false (by omega)
      have k0 := blk_of b0h.out
      have k2 := blk_of b2h.out
      generalize hNN : (40 : Int).toNat = NN at *
      clear hD
      go_wp2_with fail
      exact rs_ret1 rfl k2 hs1h.out honh.out (by omega) (by omega) rfl rfl rfl
set_option maxRecDepth 100000 in
set_option maxHeartbeats 4000000 in
theorem q_do_tick (p : Nat) (s : ShS) (o : OpS) (w : World) (hs : ShAt w p s) (c : Int) (hB9 : ShB s c) (hc9 : c ≤ 900000) (hk : o.kind = 1) :
    Calls Try.prog 14 #[.pointer (some ⟨p, 0, none⟩), .agg (rsA s), .agg (opA o)] w (LwPost w p (tickN (1 : Int).toNat s)) := by
  have hz := zeroDg
  have hz2 := zeroRs
  have hpl := (Array.getElem?_eq_some_iff.1 hs).1
  obtain ⟨b0, b1, b2, hsz, hB⟩ := three_boxes w (.cells (rsA s) 48) (.cells (opA o) 39) (.cells (rsA zRs) 48)
  have hs1 := ((hs.alloc (.cells (rsA s) 48)).alloc (.cells (opA o) 39)).alloc (.cells (rsA zRs) 48)
  have hon := only_alloc (only_alloc (only_alloc (only_refl w (some p)) (.cells (rsA s) 48)) (.cells (opA o) 39)) (.cells (rsA zRs) 48)
  go_enter Try.func14, Try.ntmps14
  go_upto_region 1 with (fail)
  generalize World.alloc (World.alloc (World.alloc w _) _) _ = W at *
  have b0h := Lib.hid b0
  have b1h := Lib.hid b1
  have b2h := Lib.hid b2
  have hs1h := Lib.hid hs1
  have honh := Lib.hid hon
  have hsW : w.heap.size + 3 ≤ W.heap.size := by omega
  have d0 : W.cell? ⟨w.heap.size + 1, 0, none⟩ = some (.int .i64 1) := (cell_of_block b1).trans (by rw [opA_c0, hk])
  clear b0 b1 b2 hB hs hs1 hon hsz hk
  go_upto_region 19 with (fail)
  have hst : Hid (DoAt w W p s) := hide ⟨hs1h.out, honh.out, b0h.out, b2h.out, hsW⟩
  clear b0h b1h b2h hs1h honh d0
  go_wp2_with fail
  have htn0 : Hid (tickN 0 s = s) := hide rfl
  go_loopw [15] (fun v15 wr => ∃ k : Nat, k ≤ (1 : Int).toNat ∧ v15 = .int .i64 (k : Nat) ∧ Hid (DoAt w wr p (tickN k s))) (fun v15 _ => (1 : Int).toNat - (intOf v15).toNat)
  case atStart => exact ⟨0, Nat.zero_le _, rfl, hide (by rw [htn0.out]; exact hst.out)⟩
  case round =>
    obtain ⟨k, hk, rfl, hD⟩ := hrel
    clear hst htn0
    obtain ⟨hs9, hon9, b09, b29, hsW⟩ := hD.out
    have b0h := Lib.hid b09
    have b2h := Lib.hid b29
    have hs1h := Lib.hid hs9
    have honh := Lib.hid hon9
    clear hs9 hon9 b09 b29
    by_cases hlt : k < (1 : Int).toNat
    · have i1 : decide ((k : Int) < 1) = true := decide_eq_true (by omega)
      have hbk := hB9.tickN k
      have hnx : Hid (tickN (k + 1) s = (shTick (tickN k s)).1) := hide rfl
      clear hD
      generalize tickN k s = s1 at *
      have hT := fun y h => s_tick p s1 y h (hbk.ok (by omega)) (by have := hbk.q2; omega)
      have hR := fun y => r_tick s1 y (hbk.ok (by omega)) (by have := hbk.q2; omega)
      rcases hTe : shTick s1 with ⟨s2, ⟨x1, x2, x3⟩, c⟩
      rw [hTe] at hT hR hnx
      have hTh : Hid (∀ y, ShAt y p s1 → Calls Try.prog 11 #[.pointer (some ⟨p, 0, none⟩)] y (ShPost y p s2 (.tuple #[.agg (dgmA x1 x2 x3), .bool c]))) := hide hT
      have hRh : Hid (∀ y, Calls Try.prog 22 #[.agg (rsA s1)] y (Ret y (.tuple #[.agg (rsA s2), .agg (dgmA x1 x2 x3), .bool c]))) := hide hR
      clear hT hR hTe hbk
      go_wp2_with fail
      refine (hTh.out wr hs1h.out).mono ?_
      rintro e w1 ⟨rfl, hs2, hg2⟩
      have a0 := Lib.hid (blk_of ((only_blk hg2 (by omega) (by omega)).trans b0h.out))
      have a2 := Lib.hid (blk_of ((only_blk hg2 (by omega) (by omega)).trans b2h.out))
      have hs2h := Lib.hid hs2
      have hon2 := Lib.hid (only_trans honh.out hg2)
      have hsW1 : w.heap.size + 3 ≤ w1.heap.size := by have := hg2.size; omega
      clear hs2 hg2 b0h b2h hs1h honh hTh hsW
      go_upto_region 23 with (fail)
      obtain ⟨q1, q2, q3, q4⟩ := box_one w1 (dgmA 0 0 0) (dgmA x1 x2 x3) 34
      have m0 := (q2 _ (by omega)).trans a0.out
      have m2 := Lib.hid ((q2 _ (by omega)).trans a2.out)
      have m0h := Lib.hid m0
      have m3 := Lib.hid q1
      have hsv := Lib.hid (hs2h.out.below q4)
      have honv := Lib.hid (only_trans2 hon2.out q4)
      clear q1 q2 q4 a0 a2 hs2h hon2
      generalize World.setRow (World.alloc w1 _) _ _ = V at *
      have hgV : w1.heap.size < V.heap.size := by omega
      generalize w1.heap.size = g at *
      clear q3
      go_wp2_with fail
      refine (hRh.out V).mono ?_
      rintro e X ⟨rfl, hX⟩
      have n0 := Lib.hid ((blk_below hX (by omega)).trans m0h.out)
      have n2 := Lib.hid ((blk_below hX (by omega)).trans m2.out)
      have n3 := Lib.hid ((blk_below hX (by omega)).trans m3.out)
      have hsx := Lib.hid (hsv.out.below hX)
      have honx := Lib.hid (only_trans2 honv.out hX)
      have hsX : V.heap.size ≤ X.heap.size := hX.size
      clear hX m0 m0h m2 m3 hsv honv hRh
      go_upto_region 24 with (fail)
      obtain ⟨q1, q2, q3, q4, q5⟩ := box_two X (rsA zRs) (dgmA 0 0 0) (rsA s2) (dgmA x1 x2 x3) 48 34
      have o0 := Lib.hid ((q3 _ (by omega)).trans n0.out)
      have o2 := Lib.hid ((q3 _ (by omega)).trans n2.out)
      have o3 := Lib.hid ((q3 _ (by omega)).trans n3.out)
      have p1 := Lib.hid q1
      have p2 := Lib.hid q2
      have hsy := Lib.hid (hsx.out.below q5)
      have hony := Lib.hid (only_trans2 honx.out q5)
      clear q1 q2 q3 q5 n0 n2 n3 hsx honx
      generalize World.setRow (World.setRow (World.alloc (World.alloc X _) _) _ _) _ _ = Y at *
      generalize hXe : X.heap.size = xs at *
      have hxY : xs + 2 ≤ Y.heap.size := by omega
      clear q4 hXe
      have k0 := o0.out
      have k1 := p1.out
      have k3 := o3.out
      have k4 := p2.out
      have hDs := Lib.hid (fun y => r_dsame x1 x2 x3 y)
      cases c
      all_goals
        go_wp2_with fail
        refine (hDs.out _).mono ?_
        rintro e Z ⟨rfl, hZ⟩
        have j0 := (blk_below hZ (by omega)).trans o0.out
        have j1 := (blk_below hZ (by omega)).trans p1.out
        have j2 := Lib.hid ((blk_below hZ (by omega)).trans o2.out)
        have hsz := Lib.hid (hsy.out.below hZ)
        have honz := Lib.hid (only_trans2 hony.out hZ)
        have hsZ : w.heap.size + 3 ≤ Z.heap.size := by have := hZ.size; omega
        clear hZ k0 k1 k3 k4 o0 o2 o3 p1 p2 hsy hony hDs
        go_wp2_with fail
        go_roundw
        case rel => exact ⟨k + 1, by omega, by go_num, hide (by rw [hnx.out]; exact DoAt.next (wr := Z) (w1 := Z) j0 j2.out hsz.out honz.out (by omega) hsZ)⟩
        case measure => simp [intOf]; omega
    · obtain rfl : k = (1 : Int).toNat := by omega
      have i1 : decide ((((1 : Int).toNat : Nat) : Int) < 1) = false := decide_eq_false (by omega)
      have k0 := blk_of b0h.out
      have k2 := blk_of b2h.out
      generalize hNN : (1 : Int).toNat = NN at *
      clear hD
      go_wp2_with fail
      exact rs_ret1 rfl k2 hs1h.out honh.out (by omega) (by omega) rfl rfl rfl
set_option maxRecDepth 100000 in
set_option maxHeartbeats 4000000 in
theorem q_do_else (p : Nat) (s : ShS) (o : OpS) (w : World) (hs : ShAt w p s) (ok : ShOk s) (k0 : (o.kind == 0) = false) (k1 : (o.kind == 1) = false) (k2 : (o.kind == 2) = false) (k3 : (o.kind == 3) = false) (k4 : (o.kind == 4) = false) (k5 : (o.kind == 5) = false) :
    Calls Try.prog 14 #[.pointer (some ⟨p, 0, none⟩), .agg (rsA s), .agg (opA o)] w (LwPost w p s) := by
  have hz := zeroDg
  have hz2 := zeroRs
  have hpl := (Array.getElem?_eq_some_iff.1 hs).1
  obtain ⟨b0, b1, b2, hsz, hB⟩ := three_boxes w (.cells (rsA s) 48) (.cells (opA o) 39) (.cells (rsA zRs) 48)
  have hs1 := ((hs.alloc (.cells (rsA s) 48)).alloc (.cells (opA o) 39)).alloc (.cells (rsA zRs) 48)
  have hon := only_alloc (only_alloc (only_alloc (only_refl w (some p)) (.cells (rsA s) 48)) (.cells (opA o) 39)) (.cells (rsA zRs) 48)
  go_enter Try.func14, Try.ntmps14
  go_upto_region 1 with (fail)
  generalize World.alloc (World.alloc (World.alloc w _) _) _ = W at *
  have b0h := Lib.hid b0
  have b1h := Lib.hid b1
  have b2h := Lib.hid b2
  have hs1h := Lib.hid hs1
  have honh := Lib.hid hon
  have hsW : w.heap.size + 3 ≤ W.heap.size := by omega
  have d0 : W.cell? ⟨w.heap.size + 1, 0, none⟩ = some (.int .i64 o.kind) := (cell_of_block b1).trans (opA_c0 o)
  have m0 := blk_of b0
  have m2 := blk_of b2
  clear b0 b1 b2 hB hs hs1 hon hsz hz hz2
  go_wp2_with fail
  exact rs_ret1 rfl m2 hs1h.out honh.out (by omega) (by omega) rfl rfl rfl
set_option maxRecDepth 100000 in
theorem q_do (p : Nat) (s : ShS) (o : OpS) (w : World) (hs : ShAt w p s) (c : Int) (hB9 : ShB s c) (hc9 : c ≤ 900000) :
    Calls Try.prog 14 #[.pointer (some ⟨p, 0, none⟩), .agg (rsA s), .agg (opA o)] w (LwPost w p (doS s o)) := by
  have ok := hB9.ok (by omega)
  unfold doS
  by_cases k0 : o.kind = 0
  · rw [if_pos k0]; exact q_do_start p s o w hs ok k0
  rw [if_neg k0]
  by_cases k2 : o.kind = 2
  · rw [if_pos k2]; exact q_do_take p s o w hs ok k2
  rw [if_neg k2]
  by_cases k3 : o.kind = 3
  · rw [if_pos k3]; exact q_do_end p s o w hs ok k3
  rw [if_neg k3]
  by_cases k4 : o.kind = 4
  · rw [if_pos k4]; exact q_do_right p s o w hs ok k4
  rw [if_neg k4]
  by_cases k5 : o.kind = 5
  · rw [if_pos k5]
    by_cases hn : o.n ≤ 40
    · have h := q_do_few p s o w hs c hB9 hc9 k5 hn
      rw [show min o.n 40 = o.n by omega]; exact h
    · have h := q_do_many p s o w hs c hB9 hc9 k5 (by omega)
      rw [show min o.n 40 = 40 by omega]; exact h
  rw [if_neg k5]
  by_cases k1 : o.kind = 1
  · rw [if_pos k1]; exact q_do_tick p s o w hs c hB9 hc9 k1
  rw [if_neg k1]
  exact q_do_else p s o w hs ok (by simpa using k0) (by simpa using k1) (by simpa using k2) (by simpa using k3) (by simpa using k4) (by simpa using k5)
end Go.Proofs.Ytdpngimcmohmaaa
