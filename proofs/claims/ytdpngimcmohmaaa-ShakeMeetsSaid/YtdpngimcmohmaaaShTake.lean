/- The law's take of layer 27: a datagram at both. Conditions: the state lies at the pointer; its numbers are of their kinds and not too great. -/
import Derived.Test.YtdpngimcmohmaaaShLaw
namespace Go.Proofs.Ytdpngimcmohmaaa
open Go.RowKit
/-- both have come to this state -/
def LwPost (W : World) (p : Nat) (s : ShS) (e : Ending) (W' : World) : Prop := e = .returned (.tuple #[.agg (rsA s), .bool true]) ∧ ShAt W' p s ∧ W.grownBy W' (some p)
set_option maxRecDepth 100000 in
theorem only_trans2 {a b c : World} {g : Nat} (h1 : a.grownBy b (some g)) (h2 : Below b.heap.size b c) : a.grownBy c (some g) := only_trans h1 (only_of_below h2 _)
set_option maxRecDepth 100000 in
theorem ShAt.below {w w' : World} {p : Nat} {s : ShS} (h : ShAt w p s) (hb : Below w.heap.size w w') : ShAt w' p s := (hb.block p (Array.getElem?_eq_some_iff.1 h).1).trans h
set_option maxRecDepth 100000 in
/-- a variable that is made and set at once -/
theorem box_one (X : World) (A C : Array Value) (T : TypeId) :
    let Y := (X.alloc (.cells A T)).setRow X.heap.size C
    blk Y X.heap.size = some (.cells C T (0, 0)) ∧ (∀ g, g < X.heap.size → blk Y g = blk X g) ∧ Y.heap.size = X.heap.size + 1 ∧ Below X.heap.size X Y := by
  intro Y
  have s1 : ∀ (u : World) (o : Obj), (u.alloc o).heap.size = u.heap.size + 1 := fun u o => by show (u.heap.push _).size = _; rw [Array.size_push]
  refine ⟨setRow_heap _ _ _ _ _ _ (last_block0 _ _ _ rfl), fun g hg => ?_, by show ((World.setRow _ _ _)).heap.size = _; rw [size_setRow, s1], below_setRow ((Below.refl _ _).alloc (Nat.le_refl _) _) (Nat.le_refl _) _⟩
  show (World.setRow _ _ _).heap[g]? = X.heap[g]?
  rw [setRow_other _ _ _ _ (by omega), Below.heap_alloc _ _ _ hg]
set_option maxRecDepth 100000 in
theorem rs_ret1 {fn : Func} {q u : Tmp} (h : fn.results = #[.cell q 48, .tmp u]) {tmps : Array Value} {W V w : World} {p g : Nat} {C : Array Value} {s : ShS}
    (h1 : blk V g = some (.cells C 48 (0, 0))) (hS : ShAt V p s) (hon : w.grownBy V (some p)) (hg : w.heap.size ≤ g) (hgp : p ≠ g)
    (hW : W = V.setRow g (rsA s)) (hq : tmps.getD q undef = .pointer (some ⟨g, 0, none⟩)) (hx : tmps.getD u undef = .bool true) :
    bodyPost Try.prog fn (LwPost w p s) .normal ⟨tmps, []⟩ W := by
  subst hW
  refine bodyPost_ret (results_row_tmp h _ _ g 48 (rsA s) (0, 0) _ (.bool true) hq hx (setRow_heap _ _ _ _ _ _ (blk_heap h1)) Try.underlying48 rfl (rs_infoA _)) rfl ⟨rfl, hS.setRow hgp _, only_setRow hon (.inr hg) _⟩
/-- what lay from block lo on lies as it lay -/
def TkS (Y : World) (lo : Nat) (w' : World) : Prop := (∀ k, lo ≤ k → k < Y.heap.size → blk w' k = blk Y k) ∧ Y.heap.size ≤ w'.heap.size
set_option maxRecDepth 100000 in
theorem TkS.drew (Y : World) (lo : Nat) : TkS Y lo Y.drew := ⟨fun _ _ _ => rfl, Nat.le_refl _⟩
set_option maxRecDepth 100000 in
theorem TkS.below {Y a b : World} {lo : Nat} (h : TkS Y lo a) (hb : Below a.heap.size a b) : TkS Y lo b := ⟨fun k h1 h2 => (blk_below hb (Nat.lt_of_lt_of_le h2 h.2)).trans (h.1 k h1 h2), Nat.le_trans h.2 hb.size⟩
set_option maxRecDepth 100000 in
theorem TkS.setRow {Y a : World} {lo g : Nat} (h : TkS Y lo a) (hg : g < lo) (C : Array Value) : TkS Y lo (a.setRow g C) := ⟨fun k h1 h2 => (show (a.setRow g C).heap[k]? = a.heap[k]? from setRow_other _ _ _ _ (by omega)).trans (h.1 k h1 h2), by rw [size_setRow]; exact h.2⟩
attribute [local irreducible] tokZ rsA dgmA dgA dBuild blk wLoad wLoadRes loadAns wStore wStoreRes storeAns Plain
attribute [local go_sem ↓] dBuild_of ld_rs0 sto_rs0 ld_dg0 sto_dg0
attribute [local go_sem] dBuild_0 dBuild_5 dBuild_6 ld_rs sto_rs ld_dg sto_dg loadAns_some storeAns_some rs_size rs_plain dg_size dg_plain dgA_size blk_alloc_if blk_setRow_if blk_drew_at blk_drewN_at rowPut_some
set_option maxRecDepth 100000 in
set_option maxHeartbeats 2000000 in
theorem q_take (p : Nat) (s : ShS) (d : DgS) (w : World) (hs : ShAt w p s) (ok : ShOk s) :
    Calls Try.prog 20 #[.pointer (some ⟨p, 0, none⟩), .agg (rsA s), .agg (dgA d)] w (LwPost w p (shTake s d.kind d.a d.b).1) := by
  have hT := fun y h => s_take p s d y h ok
  have hR := fun y => r_take s d y ok
  rcases hTe : shTake s d.kind d.a d.b with ⟨s2, ⟨x1, x2, x3⟩, b, c⟩
  rw [hTe] at hT hR
  have hTh : Hid (∀ y, ShAt y p s → Calls Try.prog 12 #[.pointer (some ⟨p, 0, none⟩), .agg (dgA d)] y (ShPost y p s2 (.tuple #[.agg (dgmA x1 x2 x3), .bool b, .int .i64 c]))) := hide hT
  have hRh : Hid (∀ y, Calls Try.prog 26 #[.agg (rsA s), .agg (dgA d)] y (Ret y (.tuple #[.agg (rsA s2), .agg (dgmA x1 x2 x3), .bool b, .int .i64 c]))) := hide hR
  clear hT hR hTe ok
  have hz := zeroDg
  have hz2 := zeroRs
  have hpl := (Array.getElem?_eq_some_iff.1 hs).1
  obtain ⟨b0, b1, b2, hsz, hB⟩ := three_boxes w (.cells (rsA s) 48) (.cells (dgA d) 34) (.cells (rsA zRs) 48)
  have hs1 := ((hs.alloc (.cells (rsA s) 48)).alloc (.cells (dgA d) 34)).alloc (.cells (rsA zRs) 48)
  have hon := only_alloc (only_alloc (only_alloc (only_refl w (some p)) (.cells (rsA s) 48)) (.cells (dgA d) 34)) (.cells (rsA zRs) 48)
  go_enter Try.func20, Try.ntmps20
  go_upto_region 1 with (fail)
  generalize World.alloc (World.alloc (World.alloc w _) _) _ = W at *
  have k1 := blk_of b1
  have b0h := Lib.hid b0
  have b1h := Lib.hid b1
  have b2h := Lib.hid b2
  have hs1h := Lib.hid hs1
  have honh := Lib.hid hon
  have hsW : w.heap.size + 3 ≤ W.heap.size := by omega
  clear b0 b1 b2 hB hs hs1 hon hsz
  go_wp2_with fail
  refine (hTh.out W hs1h.out).mono ?_
  rintro e w1 ⟨rfl, hs2, hg2⟩
  have a0 := Lib.hid (blk_of ((only_blk hg2 (by omega) (by omega)).trans b0h.out))
  have a1 := Lib.hid (blk_of ((only_blk hg2 (by omega) (by omega)).trans b1h.out))
  have a2 := Lib.hid (blk_of ((only_blk hg2 (by omega) (by omega)).trans b2h.out))
  have hs2h := Lib.hid hs2
  have hon2 := Lib.hid (only_trans honh.out hg2)
  have hsW1 : w.heap.size + 3 ≤ w1.heap.size := by have := hg2.size; omega
  clear hs2 hg2 b0h b1h b2h hs1h honh k1 hTh hsW
  go_upto_region 2 with (fail)
  obtain ⟨q1, q2, q3, q4⟩ := box_one w1 (dgmA 0 0 0) (dgmA x1 x2 x3) 34
  have m0 := (q2 _ (by omega)).trans a0.out
  have m1 := (q2 _ (by omega)).trans a1.out
  have m2 := Lib.hid ((q2 _ (by omega)).trans a2.out)
  have m3 := Lib.hid q1
  have hsv := Lib.hid (hs2h.out.below q4)
  have honv := Lib.hid (only_trans2 hon2.out q4)
  clear q1 q2 q4 a0 a1 a2 hs2h hon2
  generalize World.setRow (World.alloc w1 _) _ _ = V at *
  have hgV : w1.heap.size < V.heap.size := by omega
  generalize w1.heap.size = g at *
  clear q3
  go_wp2_with fail
  refine (hRh.out V).mono ?_
  rintro e X ⟨rfl, hX⟩
  have n2 := Lib.hid ((blk_below hX (by omega)).trans m2.out)
  have n3 := Lib.hid ((blk_below hX (by omega)).trans m3.out)
  have hsx := Lib.hid (hsv.out.below hX)
  have honx := Lib.hid (only_trans2 honv.out hX)
  have hsX : V.heap.size ≤ X.heap.size := hX.size
  clear hX m0 m1 m2 m3 hsv honv hRh
  go_upto_region 3 with (fail)
  obtain ⟨q1, q2, q3, q4, q5⟩ := box_two X (rsA zRs) (dgmA 0 0 0) (rsA s2) (dgmA x1 x2 x3) 48 34
  have o2 := Lib.hid ((q3 _ (by omega)).trans n2.out)
  have o3 := Lib.hid ((q3 _ (by omega)).trans n3.out)
  have p1 := Lib.hid q1
  have p2 := Lib.hid q2
  have hsy := Lib.hid (hsx.out.below q5)
  have hony := Lib.hid (only_trans2 honx.out q5)
  clear q1 q2 q3 q5 n2 n3 hsx honx hz hz2
  generalize World.setRow (World.setRow (World.alloc (World.alloc X _) _) _ _) _ _ = Y at *
  generalize hXe : X.heap.size = xs at *
  have hxY : xs + 2 ≤ Y.heap.size := by omega
  clear q4 hXe
  have hS1 : Hid (∀ w' : World, TkS Y (w.heap.size + 3) w' → (blk w' xs = some (.cells (rsA s2) 48 (0, 0)) ∧ blk w' g = some (.cells (dgmA x1 x2 x3) 34 (0, 0)) ∧ blk w' (xs + 1) = some (.cells (dgmA x1 x2 x3) 34 (0, 0)) ∧ TkS Y (w.heap.size + 3) w')) := hide (fun w' hb =>
    ⟨(hb.1 _ (by omega) (by omega)).trans p1.out, (hb.1 _ (by omega) (by omega)).trans o3.out, (hb.1 _ (by omega) (by omega)).trans p2.out, hb⟩)
  have o2d : Hid (blk Y.drew (w.heap.size + 1 + 1) = some (.cells (rsA zRs) 48 (0, 0))) := hide ((blk_drew_at Y _).trans o2.out)
  have hlt2 : w.heap.size + 1 + 1 < Y.drew.heap.size := by show _ < Y.heap.size; omega
  have hDs := Lib.hid (fun y => r_dsame x1 x2 x3 y)
  have hcc : (c == c) = true := by simp
  cases b
  all_goals
    go_region_held3 (fun w' => blk w' xs = some (.cells (rsA s2) 48 (0, 0)) ∧ blk w' g = some (.cells (dgmA x1 x2 x3) 34 (0, 0)) ∧ blk w' (xs + 1) = some (.cells (dgmA x1 x2 x3) 34 (0, 0)) ∧ TkS Y (w.heap.size + 3) w')
      (first | (refine hS1.out _ ?_; exact TkS.drew _ _) | (go_split_ands; refine hS1.out _ ?_; first | exact TkS.below (by assumption) (by assumption) | exact TkS.setRow (by assumption) (by omega) _))
      (first | (go_at_call 19; refine (hDs.out _).mono ?_; rintro e w1 ⟨rfl, hb1⟩; have hz1 := (blk_below hb1 hlt2).trans o2d.out))
    all_goals
      go_wp2_with fail
      exact rs_ret1 rfl hz1 ((show ShAt Y.drew p s2 from hsy.out).below hb1) (only_trans2 (only_drew hony.out) hb1) (by omega) (by omega) rfl rfl rfl
end Go.Proofs.Ytdpngimcmohmaaa
