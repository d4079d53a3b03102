import Derived.Test.YtipfoclmdbbjiaaGrRB
/- The document's builder: Tick and Add. Conditions: its inputs are a row of one's own. -/
namespace Go.Proofs.Ytipfoclmdbbjiaa
open Go.RowKit
def RbOut (W : World) (s' : GbS) (v' : Value) (o : Option (Nat × Nat × Nat × Nat × (Nat → Nat))) (e : Ending) (W' : World) : Prop :=
  match o with
  | none => e = .returned (.tuple #[.agg (rbA s' v'), .agg #[.int .u32 0, .int .u32 0, .int .i64 0, .int .i64 0, .slice none 0 0], .bool false])
  | some (no, fi, K, m, I) => ∃ sd cap, e = .returned (.tuple #[.agg (rbA s' v'), .agg #[.int .u32 (no : Nat), .int .u32 (fi : Nat), .int .i64 (K : Nat), .int .i64 (m : Nat), .slice sd (K + m) cap], .bool true]) ∧ OwnS W' W.heap.size (.slice sd (K + m) cap) (K + m) 2 (grD K I)
def RbPost (W : World) (base : Nat) (v : Value) (s' : GbS) (o : Option (Nat × Nat × Nat × Nat × (Nat → Nat))) (e : Ending) (W' : World) : Prop :=
  ∃ v', OwnZ W' base 39 .u16 v' s'.n (fun j => (s'.I j : Nat)) ∧ (∀ b, v'.ownBlock = some b → v.ownBlock = some b ∨ W.heap.size ≤ b) ∧ Below W.heap.size W W' ∧ RbOut W s' v' o e W'
set_option maxRecDepth 100000 in
/-- two fresh boxes and what is put into them -/
theorem boxed2 (w : World) (A B A2 B2 : Array Value) (T U : TypeId) :
    ((((w.alloc (.cells A T)).alloc (.cells B U)).setRow w.heap.size A2).setRow (w.heap.size + 1) B2).heap[w.heap.size]? = some (.cells A2 T (0, 0)) ∧
    ((((w.alloc (.cells A T)).alloc (.cells B U)).setRow w.heap.size A2).setRow (w.heap.size + 1) B2).heap[w.heap.size + 1]? = some (.cells B2 U (0, 0)) ∧
    ((((w.alloc (.cells A T)).alloc (.cells B U)).setRow w.heap.size A2).setRow (w.heap.size + 1) B2).heap.size = w.heap.size + 2 ∧ Below w.heap.size w ((((w.alloc (.cells A T)).alloc (.cells B U)).setRow w.heap.size A2).setRow (w.heap.size + 1) B2) := by
  obtain ⟨h0, h1, hs, hb⟩ := two_allocs w (.cells A T) (.cells B U)
  have hne : w.heap.size ≠ w.heap.size + 1 := by omega
  obtain ⟨h2, h3, _, _⟩ := two_set (A := A2) (B := B2) h0 h1 hne
  exact ⟨h2, h3, by rw [size_setRow, size_setRow, hs], below_setRow (below_setRow hb (Nat.le_refl _) A2) (by omega) B2⟩
set_option maxRecDepth 100000 in
theorem results_2t {P : Program} {fn : Func} {p q u : Tmp} {ty ty2 : TypeId} (h : fn.results = #[.cell p ty, .cell q ty2, .tmp u]) (tmps : Array Value) (w : World) (g : Nat) (t : TypeId) (cs : Array Value) (fr : Nat × Nat) (d : TypeDesc) (g2 : Nat) (t2 : TypeId) (cs2 : Array Value) (fr2 : Nat × Nat) (d2 : TypeDesc) (x : Value)
    (hp : tmps.getD p undef = .pointer (some ⟨g, 0, none⟩)) (hq : tmps.getD q undef = .pointer (some ⟨g2, 0, none⟩)) (hx : tmps.getD u undef = x) (hg : w.heap[g]? = some (.cells cs t fr)) (hg2 : w.heap[g2]? = some (.cells cs2 t2 fr2))
    (hu : P.underlying ty = some d) (hd : (match d with | .struct _ | .array _ _ => true | _ => false) = true) (hi : (P.info? ty).map (·.size) = some cs.size)
    (hu2 : P.underlying ty2 = some d2) (hd2 : (match d2 with | .struct _ | .array _ _ => true | _ => false) = true) (hi2 : (P.info? ty2).map (·.size) = some cs2.size) :
    (results fn tmps).run P w = .ok (.tuple #[.agg cs, .agg cs2, x]) w := results_row2_tmp h tmps w g t cs fr d g2 t2 cs2 fr2 d2 x hp hq hx hg hg2 hu hd hi hu2 hd2 hi2
attribute [local irreducible] gexp gtbl glog rmul rinv rpow zexp mixF blk wLoad wLoadRes loadAns wStore wStoreRes storeAns Plain flF BRow MRow MAt By IsGf ivS rsF mlF RowsAt paF OwnS SlR dtF inV grD gbClo
attribute [local go_sem ↓] ld_w0 sto_w0 ld_b0 sto_b0
attribute [local go_sem] ld_w sto_w ld_b sto_b loadAns_some storeAns_some gg_size gg_plain rb_size rb_plain blk_alloc_if blk_setRow_if blk_drew_at blk_drewN_at rowPut_some blk_setCell_if cellPut_some
set_option maxRecDepth 100000 in
set_option maxHeartbeats 8000000 in
theorem r_tick17 (base : Nat) (s : GbS) (v : Value) (loss : Int) (w : World) (hown : OwnZ w base 39 .u16 v s.n (fun j => (s.I j : Nat))) (ok : GbOk s) (hol : s.old < s.age) :
    Calls Try.prog 10 #[.agg (rbA s v), .int .i64 loss] w (RbPost w base v (gbTick s loss).1 (gbTick s loss).2) := by
  have hzb := zeroRB
  have hzg := zeroGW
  obtain ⟨si, ci, rfl, hz0, _⟩ := hown.open
  have hownh := Lib.hid hown
  have hz0h := Lib.hid hz0
  have hok1 := Lib.hid (ok.oldS hol)
  have hnil : Hid (s.n = 0 → gbTick s loss = (s, none)) := hide (fun h => by unfold gbTick; rw [if_pos h])
  have hyes : Hid (s.n ≠ 0 → s.old + 1 < s.age → gbTick s loss = (gbOldS s, none)) := hide (fun h0 h => by unfold gbTick; rw [if_neg h0, if_pos h])
  have hno : Hid (s.n ≠ 0 → ¬ s.old + 1 < s.age → gbTick s loss = (gbClo (gbOldS s) loss, some (gbGrp (gbOldS s) loss))) := hide (fun h0 h => by unfold gbTick; rw [if_neg h0, if_neg h])
  have kcl := Lib.hid (fun y (h1 : 1 ≤ s.n) (hy : Below w.heap.size w y) => r_closed (gbOldS s) si ci loss y (hz0.below hy) (ok.oldS hol) h1)
  have hn16 := ok.n
  have ho16 := ok.o1
  have ha16 := ok.a1
  clear hown hz0 ok
  obtain ⟨ct, size, age, no, fi, old, n, I⟩ := s
  obtain ⟨now, most, calm⟩ := ct
  simp only at hol hnil hyes hno kcl hn16 ho16 ha16 hownh hz0h ⊢
  have hrs : Hid (rbA (gbOldS ⟨⟨now, most, calm⟩, size, age, no, fi, old, n, I⟩) (.slice si n ci) = #[.int .i64 now, .int .i64 most, .int .i64 calm, .int .i64 (size : Nat), .int .i64 (age : Nat), .int .i64 ((old + 1 : Nat) : Int), .int .u32 (no : Nat), .int .u32 (fi : Nat), .slice si n ci]) := hide rfl
  have hr0 : Hid (rbA ⟨⟨now, most, calm⟩, size, age, no, fi, old, n, I⟩ (.slice si n ci) = #[.int .i64 now, .int .i64 most, .int .i64 calm, .int .i64 (size : Nat), .int .i64 (age : Nat), .int .i64 (old : Nat), .int .u32 (no : Nat), .int .u32 (fi : Nat), .slice si n ci]) := hide rfl
  have kcl2 : Hid (∀ y, 1 ≤ n → Below w.heap.size w y → Calls Try.prog 28 #[.agg #[.int .i64 now, .int .i64 most, .int .i64 calm, .int .i64 (size : Nat), .int .i64 (age : Nat), .int .i64 ((old + 1 : Nat) : Int), .int .u32 (no : Nat), .int .u32 (fi : Nat), .slice si n ci], .int .i64 loss] y (ClPost y (gbOldS ⟨⟨now, most, calm⟩, size, age, no, fi, old, n, I⟩) loss)) := hide (fun y h1 hy => kcl.out y h1 hy)
  rw [hr0.out]
  obtain ⟨b0, b1, b2, hsz, hB⟩ := three_boxesG w (.cells #[.int .i64 now, .int .i64 most, .int .i64 calm, .int .i64 (size : Nat), .int .i64 (age : Nat), .int .i64 (old : Nat), .int .u32 (no : Nat), .int .u32 (fi : Nat), .slice si n ci] 37) (.cells #[.int .i64 0, .int .i64 0, .int .i64 0, .int .i64 0, .int .i64 0, .int .i64 0, .int .u32 0, .int .u32 0, .slice none 0 0] 37) (.cells #[.int .u32 0, .int .u32 0, .int .i64 0, .int .i64 0, .slice none 0 0] 44)
  go_enter Try.func10, Try.ntmps10
  go_upto_region 1 with (fail)
  generalize World.alloc (World.alloc (World.alloc w _) _) _ = X at *
  have hwX : w.heap.size ≤ X.heap.size := by omega
  have l1 : w.heap.size + 1 < X.heap.size := by omega
  have l2 : w.heap.size + 1 + 1 < X.heap.size := by omega
  have n1 : w.heap.size + 1 ≠ w.heap.size := by omega
  have n2 : w.heap.size + 1 + 1 ≠ w.heap.size := by omega
  have n3 : w.heap.size + 1 + 1 ≠ w.heap.size + 1 := by omega
  have hBX := Lib.hid hB
  have x8 : X.cell? ⟨w.heap.size, 8, none⟩ = some (.slice si n ci) := (cell_of_block b0).trans rfl
  have b0h := Lib.hid b0
  have b1h := Lib.hid b1
  have b2h := Lib.hid b2
  clear b0 b1 b2 hB hsz
  by_cases hn0 : n = 0
  · have en : ((n : Int) == 0) = true := by rw [hn0]; rfl
    have hnilh := Lib.hid (hnil.out hn0)
    have bx0 := blk_of b0h.out
    have bx1 := blk_of b1h.out
    have bx2 := blk_of b2h.out
    obtain ⟨t1, t2, _, _⟩ := two_set (A := #[.int .i64 now, .int .i64 most, .int .i64 calm, .int .i64 (size : Nat), .int .i64 (age : Nat), .int .i64 (old : Nat), .int .u32 (no : Nat), .int .u32 (fi : Nat), .slice si n ci]) (B := #[.int .u32 0, .int .u32 0, .int .i64 0, .int .i64 0, .slice none 0 0]) b1h.out b2h.out n3.symm
    have t1h := Lib.hid t1
    have t2h := Lib.hid t2
    have hbf : Hid (Below w.heap.size w ((X.setRow (w.heap.size + 1) #[.int .i64 now, .int .i64 most, .int .i64 calm, .int .i64 (size : Nat), .int .i64 (age : Nat), .int .i64 (old : Nat), .int .u32 (no : Nat), .int .u32 (fi : Nat), .slice si n ci]).setRow (w.heap.size + 1 + 1) #[.int .u32 0, .int .u32 0, .int .i64 0, .int .i64 0, .slice none 0 0])) := hide (below_setRow (below_setRow hBX.out (by omega) _) (by omega) _)
    clear t1 t2 hn0 hnil hyes hno
    go_wp2_with fail
    refine bodyPost_ret (v := .tuple #[.agg #[.int .i64 now, .int .i64 most, .int .i64 calm, .int .i64 (size : Nat), .int .i64 (age : Nat), .int .i64 (old : Nat), .int .u32 (no : Nat), .int .u32 (fi : Nat), .slice si n ci], .agg #[.int .u32 0, .int .u32 0, .int .i64 0, .int .i64 0, .slice none 0 0], .bool false]) (results_2t rfl _ _ (w.heap.size + 1) 37 _ (0, 0) _ (w.heap.size + 1 + 1) 44 _ (0, 0) _ _ rfl rfl rfl t1h.out t2h.out Try.underlying37 rfl rb_info Try.underlying44 rfl gw_info) rfl ?_
    rw [hnilh.out]
    exact ⟨_, hownh.out.below hbf.out, fun b hb => .inl hb, hbf.out, rfl⟩
  have en : ((n : Int) == 0) = false := by simp; omega
  have x5 : X.cell? ⟨w.heap.size, 5, none⟩ = some (.int .i64 (old : Nat)) := (cell_of_block b0h.out).trans rfl
  have f5 := frozen_of_row X w.heap.size 5 _ _ b0h.out
  have hOi := Lib.hid (show (old : Int) + 1 = ((old + 1 : Nat) : Int) by omega)
  go_upto_region 4 with (fail)
  rw [hOi.out]
  have by0 : (X.setCell ⟨w.heap.size, 5, none⟩ (.int .i64 ((old + 1 : Nat) : Int))).heap[w.heap.size]? = some (.cells #[.int .i64 now, .int .i64 most, .int .i64 calm, .int .i64 (size : Nat), .int .i64 (age : Nat), .int .i64 ((old + 1 : Nat) : Int), .int .u32 (no : Nat), .int .u32 (fi : Nat), .slice si n ci] 37 (0, 0)) := blk_set b0h.out 5 _
  have hd := Lib.hid (only_set (only_refl X (some w.heap.size)) 5 (.int .i64 ((old + 1 : Nat) : Int)))
  have hBY := Lib.hid (hBX.out.setCell (p := ⟨w.heap.size, 5, none⟩) (Nat.le_refl _) (.int .i64 ((old + 1 : Nat) : Int)))
  clear x8 x5 f5
  generalize World.setCell X _ _ = Y at *
  have y5 : Y.cell? ⟨w.heap.size, 5, none⟩ = some (.int .i64 ((old + 1 : Nat) : Int)) := (cell_of_block by0).trans rfl
  have y4 : Y.cell? ⟨w.heap.size, 4, none⟩ = some (.int .i64 (age : Nat)) := (cell_of_block by0).trans rfl
  have bY0 := blk_of by0
  have bY1 := blk_of ((hd.out.block _ l1 (fun e => n1 (by injection e))).trans b1h.out)
  have bY2 := blk_of ((hd.out.block _ l2 (fun e => n2 (by injection e))).trans b2h.out)
  have hsY := hd.out.size
  clear by0
  by_cases hlt : old + 1 < age
  · have e0 : ((old + 1 : Nat) : Int) < (age : Int) := by omega
    have e0b : (old : Int) + 1 < (age : Int) := by omega
    have hyesh := Lib.hid (hyes.out hn0 hlt)
    obtain ⟨t1, t2, _, _⟩ := two_set (A := #[.int .i64 now, .int .i64 most, .int .i64 calm, .int .i64 (size : Nat), .int .i64 (age : Nat), .int .i64 ((old + 1 : Nat) : Int), .int .u32 (no : Nat), .int .u32 (fi : Nat), .slice si n ci]) (B := #[.int .u32 0, .int .u32 0, .int .i64 0, .int .i64 0, .slice none 0 0]) (blk_heap bY1) (blk_heap bY2) n3.symm
    have t1h := Lib.hid t1
    have t2h := Lib.hid t2
    have hbf : Hid (Below w.heap.size w ((Y.setRow (w.heap.size + 1) #[.int .i64 now, .int .i64 most, .int .i64 calm, .int .i64 (size : Nat), .int .i64 (age : Nat), .int .i64 ((old + 1 : Nat) : Int), .int .u32 (no : Nat), .int .u32 (fi : Nat), .slice si n ci]).setRow (w.heap.size + 1 + 1) #[.int .u32 0, .int .u32 0, .int .i64 0, .int .i64 0, .slice none 0 0])) := hide (below_setRow (below_setRow hBY.out (by omega) _) (by omega) _)
    clear t1 t2 hn0 hnil hyes hno
    go_wp2_with fail
    refine bodyPost_ret (v := .tuple #[.agg #[.int .i64 now, .int .i64 most, .int .i64 calm, .int .i64 (size : Nat), .int .i64 (age : Nat), .int .i64 ((old + 1 : Nat) : Int), .int .u32 (no : Nat), .int .u32 (fi : Nat), .slice si n ci], .agg #[.int .u32 0, .int .u32 0, .int .i64 0, .int .i64 0, .slice none 0 0], .bool false]) (results_2t rfl _ _ (w.heap.size + 1) 37 _ (0, 0) _ (w.heap.size + 1 + 1) 44 _ (0, 0) _ _ rfl rfl rfl t1h.out t2h.out Try.underlying37 rfl rb_info Try.underlying44 rfl gw_info) rfl ?_
    rw [hyesh.out]
    exact ⟨_, hownh.out.below hbf.out, fun b hb => .inl hb, hbf.out, rfl⟩
  · have e0 : decide (((old + 1 : Nat) : Int) < (age : Int)) = false := decide_eq_false (by omega)
    have e0b : decide ((old : Int) + 1 < (age : Int)) = false := decide_eq_false (by omega)
    have hnoh := Lib.hid (hno.out hn0 hlt)
    have kcl3 := Lib.hid (kcl2.out Y (by omega) hBY.out)
    have bY1h := Lib.hid (blk_heap bY1)
    have bY2h := Lib.hid (blk_heap bY2)
    clear hnil hyes hno kcl kcl2 bY1 bY2
    generalize gbOldS ⟨⟨now, most, calm⟩, size, age, no, fi, old, n, I⟩ = S1 at *
    unfold ClPost at kcl3
    have hn' : Hid ((gbClo S1 loss).n = 0) := hide (by unfold gbClo; rfl)
    generalize gbGrp S1 loss = G at *
    obtain ⟨g1, g2, g3, g4, g5⟩ := G
    simp only at kcl3
    generalize gbClo S1 loss = S2 at *
    go_wp2_with fail
    refine kcl3.out.mono ?_
    rintro e W2 ⟨sd, cap, rfl, hos, hb2⟩
    obtain ⟨⟨nw2, mo2, ca2⟩, si2, ag2, no2, fi2, ol2, nn2, I2⟩ := S2
    unfold rbA
    simp only
    have hB2 := Lib.hid (hBY.out.trans (hb2.mono (by omega)))
    have b12 := Lib.hid ((hb2.block _ (by omega)).trans bY1h.out)
    have b22 := Lib.hid ((hb2.block _ (by omega)).trans bY2h.out)
    have hosh := Lib.hid (hos.base (show w.heap.size ≤ Y.heap.size by omega))
    have hs2 := hb2.size
    clear hos hb2 y5 y4 bY0
    go_upto_region 7 with (fail)
    obtain ⟨x0, x1, x2, x3⟩ := boxed2 W2 #[.int .i64 0, .int .i64 0, .int .i64 0, .int .i64 0, .int .i64 0, .int .i64 0, .int .u32 0, .int .u32 0, .slice none 0 0] #[.int .u32 0, .int .u32 0, .int .i64 0, .int .i64 0, .slice none 0 0] #[.int .i64 nw2, .int .i64 mo2, .int .i64 ca2, .int .i64 (si2 : Nat), .int .i64 (ag2 : Nat), .int .i64 (ol2 : Nat), .int .u32 (no2 : Nat), .int .u32 (fi2 : Nat), .slice none 0 0] #[.int .u32 (g1 : Nat), .int .u32 (g2 : Nat), .int .i64 (g3 : Nat), .int .i64 (g4 : Nat), .slice sd (g3 + g4) cap] 37 44
    generalize World.setRow (World.setRow (World.alloc (World.alloc W2 _) _) _ _) _ _ = V at *
    obtain ⟨q, hq⟩ : ∃ q, W2.heap.size = q := ⟨_, rfl⟩
    rw [hq] at x0 x1 ⊢
    have n4 : w.heap.size + 1 ≠ q := by omega
    have n5 : w.heap.size + 1 + 1 ≠ q := by omega
    have n6 : w.heap.size + 1 ≠ q + 1 := by omega
    have n7 : w.heap.size + 1 + 1 ≠ q + 1 := by omega
    have bv0 := blk_of x0
    have bv1 := blk_of x1
    have hBV := Lib.hid (hB2.out.trans (x3.mono (by omega)))
    have bV1 := blk_of ((x3.block _ (by omega)).trans b12.out)
    have bV2 := blk_of ((x3.block _ (by omega)).trans b22.out)
    have dV1 : V.drew.heap[w.heap.size + 1]? = some (.cells #[.int .i64 0, .int .i64 0, .int .i64 0, .int .i64 0, .int .i64 0, .int .i64 0, .int .u32 0, .int .u32 0, .slice none 0 0] 37 (0, 0)) := blk_heap (w := V) bV1
    have dV2 : V.drew.heap[w.heap.size + 1 + 1]? = some (.cells #[.int .u32 0, .int .u32 0, .int .i64 0, .int .i64 0, .slice none 0 0] 44 (0, 0)) := blk_heap (w := V) bV2
    have hts := Lib.hid (two_set (w := V.drew) (A := #[.int .i64 nw2, .int .i64 mo2, .int .i64 ca2, .int .i64 (si2 : Nat), .int .i64 (ag2 : Nat), .int .i64 (ol2 : Nat), .int .u32 (no2 : Nat), .int .u32 (fi2 : Nat), .slice none 0 0]) (B := #[.int .u32 (g1 : Nat), .int .u32 (g2 : Nat), .int .i64 (g3 : Nat), .int .i64 (g4 : Nat), .slice sd (g3 + g4) cap]) dV1 dV2 n3.symm)
    have hfo := Lib.hid (own_two (w := V.drew) ((hosh.out.below x3).below (below_drewN (Below.refl _ _) 1)) dV1 dV2 n3.symm (by decide) (by decide) (by decide) (by decide) #[.int .i64 nw2, .int .i64 mo2, .int .i64 ca2, .int .i64 (si2 : Nat), .int .i64 (ag2 : Nat), .int .i64 (ol2 : Nat), .int .u32 (no2 : Nat), .int .u32 (fi2 : Nat), .slice none 0 0] #[.int .u32 (g1 : Nat), .int .u32 (g2 : Nat), .int .i64 (g3 : Nat), .int .i64 (g4 : Nat), .slice sd (g3 + g4) cap])
    have hbo : Hid (∀ (A B : Array Value), Below w.heap.size w ((V.drew.setRow (w.heap.size + 1) A).setRow (w.heap.size + 1 + 1) B) ∧ Below w.heap.size w ((V.drew.setRow (w.heap.size + 1 + 1) B).setRow (w.heap.size + 1) A)) := hide (fun A B => ⟨below_setRow (below_setRow (below_drewN hBV.out 1) (by omega) A) (by omega) B, below_setRow (below_setRow (below_drewN hBV.out 1) (by omega) B) (by omega) A⟩)
    clear x0 x1 x2 x3 hq dV1 dV2
    have hn0' : nn2 = 0 := hn'.out
    subst hn0'
    go_region
    all_goals (go_wp2_with fail)
    all_goals (
      refine bodyPost_ret (v := .tuple #[.agg #[.int .i64 nw2, .int .i64 mo2, .int .i64 ca2, .int .i64 (si2 : Nat), .int .i64 (ag2 : Nat), .int .i64 (ol2 : Nat), .int .u32 (no2 : Nat), .int .u32 (fi2 : Nat), .slice none 0 0], .agg #[.int .u32 (g1 : Nat), .int .u32 (g2 : Nat), .int .i64 (g3 : Nat), .int .i64 (g4 : Nat), .slice sd (g3 + g4) cap], .bool true]) (results_2t rfl _ _ (w.heap.size + 1) 37 _ (0, 0) _ (w.heap.size + 1 + 1) 44 _ (0, 0) _ _ rfl rfl rfl (by first | exact hts.out.1 | exact hts.out.2.2.1) (by first | exact hts.out.2.1 | exact hts.out.2.2.2) Try.underlying37 rfl rb_info Try.underlying44 rfl gw_info) rfl ?_
      rw [hnoh.out]
      exact ⟨.slice none 0 0, OwnZ.nil _ _ _ _ _, fun b hb => by simp [Value.ownBlock] at hb, by first | exact (hbo.out _ _).1 | exact (hbo.out _ _).2, sd, cap, rfl, by first | exact hfo.out.1 | exact hfo.out.2⟩)
end Go.Proofs.Ytipfoclmdbbjiaa
