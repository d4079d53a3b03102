import Derived.Test.YtipfoclmdbbjiaaGrRT
/- The document's builder: Add. Conditions: its inputs are a row of one's own. -/
namespace Go.Proofs.Ytipfoclmdbbjiaa
open Go.RowKit
set_option maxRecDepth 100000 in
theorem OwnZ.lit (W : World) (T : TypeId) (k : IntKind) (f : Nat → Int) : OwnZ (W.alloc (.cells #[] T)) W.heap.size T k (.slice (some ⟨W.heap.size, 0, none⟩) 0 0) 0 f :=
  World.ownsRow_lit (base := W.heap.size) (e := T) (size := 1) W #[] 0 (Nat.le_refl _) (by unfold maxLen; omega) rfl
attribute [local irreducible] gexp gtbl glog rmul rinv rpow zexp mixF blk wLoad wLoadRes loadAns wStore wStoreRes storeAns Plain flF BRow MRow MAt By IsGf ivS rsF mlF RowsAt paF OwnS SlR dtF inV grD gbClo
attribute [local go_sem ↓] ld_w0 sto_w0 ld_b0 sto_b0
attribute [local go_sem] ld_w sto_w ld_b sto_b loadAns_some storeAns_some gg_size gg_plain rb_size rb_plain blk_alloc_if blk_setRow_if blk_drew_at blk_drewN_at rowPut_some blk_setCell_if cellPut_some
set_option maxRecDepth 100000 in
set_option maxHeartbeats 8000000 in
theorem r_add17 (base : Nat) (s : GbS) (v : Value) (x : Nat) (loss : Int) (w : World) (hown : OwnZ w base 39 .u16 v s.n (fun j => (s.I j : Nat))) (ok : GbOk s) (hx : x < 65536) (hns : s.n < s.size) (hbase : base ≤ w.heap.size) :
    Calls Try.prog 11 #[.agg (rbA s v), .int .u16 (x : Nat), .int .i64 loss] w (RbPost w base v (gbAdd s x loss).1 (gbAdd s x loss).2) := by
  have hzb := zeroRB
  have hzg := zeroGW
  obtain ⟨si, ci, rfl, hz0, _, _, hnil0⟩ := hown.open
  have hz0h := Lib.hid hz0
  have hnil0h := Lib.hid hnil0
  have hok1 := ok.addS hx hns
  have hyes : Hid (s.n + 1 < s.size → gbAdd s x loss = (gbAddS s x, none)) := hide (fun h => by unfold gbAdd; rw [if_pos (show (gbAddS s x).n < s.size from h)])
  have hno : Hid (¬ s.n + 1 < s.size → gbAdd s x loss = (gbClo (gbAddS s x) loss, some (gbGrp (gbAddS s x) loss))) := hide (fun h => by unfold gbAdd; rw [if_neg (show ¬ (gbAddS s x).n < s.size from h)])
  have kcl := Lib.hid (fun y (s6 : Option Addr) (c6 : Nat) (hy : ZAt y .u16 s6 (gbAddS s x).n (fun j => ((gbAddS s x).I j : Nat))) => r_closed (gbAddS s x) s6 c6 loss y hy hok1 (by show 1 ≤ s.n + 1; omega))
  have hs16 := ok.s1
  have hcg : Hid (∀ j, j < s.n + 1 → (if j = s.n then (x : Int) else (s.I j : Int)) = (((gbAddS s x).I j : Nat) : Int)) := hide (fun j _ => by show _ = ((if j = s.n then x else s.I j : Nat) : Int); split <;> rfl)
  clear hown hz0 ok hok1 hnil0
  obtain ⟨ct, size, age, no, fi, old, n, I⟩ := s
  obtain ⟨now, most, calm⟩ := ct
  simp only at hns hyes hno kcl hs16 hz0h hnil0h hcg ⊢
  have hr0 : Hid (rbA ⟨⟨now, most, calm⟩, size, age, no, fi, old, n, I⟩ (.slice si n ci) = #[.int .i64 now, .int .i64 most, .int .i64 calm, .int .i64 (size : Nat), .int .i64 (age : Nat), .int .i64 (old : Nat), .int .u32 (no : Nat), .int .u32 (fi : Nat), .slice si n ci]) := hide rfl
  have hr1 : Hid (∀ (s6 : Option Addr) (c6 : Nat), rbA (gbAddS ⟨⟨now, most, calm⟩, size, age, no, fi, old, n, I⟩ x) (.slice s6 (n + 1) c6) = #[.int .i64 now, .int .i64 most, .int .i64 calm, .int .i64 (size : Nat), .int .i64 (age : Nat), .int .i64 (old : Nat), .int .u32 (no : Nat), .int .u32 (fi : Nat), .slice s6 (n + 1) c6]) := hide (fun _ _ => rfl)
  have hSn : Hid ((gbAddS ⟨⟨now, most, calm⟩, size, age, no, fi, old, n, I⟩ x).n = n + 1) := hide rfl
  rw [hr0.out]
  obtain ⟨b0, b1, b2, hsz, hB⟩ := three_boxesG w (.cells #[.int .i64 now, .int .i64 most, .int .i64 calm, .int .i64 (size : Nat), .int .i64 (age : Nat), .int .i64 (old : Nat), .int .u32 (no : Nat), .int .u32 (fi : Nat), .slice si n ci] 37) (.cells #[.int .i64 0, .int .i64 0, .int .i64 0, .int .i64 0, .int .i64 0, .int .i64 0, .int .u32 0, .int .u32 0, .slice none 0 0] 37) (.cells #[.int .u32 0, .int .u32 0, .int .i64 0, .int .i64 0, .slice none 0 0] 44)
  go_enter Try.func11, Try.ntmps11
  go_upto_region 1 with (fail)
  generalize World.alloc (World.alloc (World.alloc w _) _) _ = X at *
  have hwX : w.heap.size ≤ X.heap.size := by omega
  have l0 : w.heap.size < X.heap.size := by omega
  have l1 : w.heap.size + 1 < X.heap.size := by omega
  have l2 : w.heap.size + 1 + 1 < X.heap.size := by omega
  have n1 : w.heap.size + 1 ≠ w.heap.size := by omega
  have n2 : w.heap.size + 1 + 1 ≠ w.heap.size := by omega
  have n3 : w.heap.size + 1 + 1 ≠ w.heap.size + 1 := by omega
  have hBX := Lib.hid hB
  have x8 : X.cell? ⟨w.heap.size, 8, none⟩ = some (.slice si n ci) := (cell_of_block b0).trans rfl
  have x8a : ∀ o, (X.alloc o).cell? ⟨w.heap.size, 8, none⟩ = some (.slice si n ci) := fun o => (cell_of_block (blk_alloc b0 o)).trans rfl
  have x8b := x8a (.cells #[] 39)
  have hX1 := Lib.hid (below_one X (.cells #[] 39))
  have hlit := Lib.hid (OwnZ.lit X 39 .u16 (fun _ => 0))
  have hzX := Lib.hid ((hz0h.out.below hBX.out).below hX1.out)
  have hsX1 := hX1.out.size
  have b0h := Lib.hid b0
  have b1h := Lib.hid b1
  have b2h := Lib.hid b2
  clear b0 b1 b2 hB hsz x8a
  go_upto_region 2 with (at_builtin; refine wpList_catZ Try.underlying35 infoIn (by decide) rfl (.tmp 12) (.tmp 14) rfl (.slice (some ⟨X.heap.size, 0, none⟩) 0 0) X.heap.size 0 (fun _ => 0) si ci n (fun j => (I j : Nat)) rfl rfl hlit.out hzX.out hnil0h.out (by omega) hsX1 ?_; intro v4 w4 ho4 hg4 hf4; have ho4h := Lib.hid ho4; have hg4h := Lib.hid hg4; clear ho4 hg4 hf4)
  clear x8 x8b
  have hX4 : Hid (Below X.heap.size X w4) := hide (below_grown hX1.out (Nat.le_refl _) hg4h.out (fun p hp => by
    have hp2 : some X.heap.size = some p := hp
    injection hp2 with hp2
    omega))
  have ho4b : Hid (OwnZ w4 X.heap.size 39 .u16 v4 n (fun j => (I j : Nat))) := hide (by
    have h := ho4h.out
    rw [Nat.zero_add] at h
    exact h.congr (fun j _ => by unfold catZ; rw [if_neg (by omega)]; rfl))
  obtain ⟨s4, c4, rfl⟩ := ho4b.out.form
  have hs4 := hX4.out.size
  clear ho4h hg4h
  go_upto_region 3 with (at_builtin; refine wpList_snocZ2 Try.underlying35 infoIn (by decide) rfl (.tmp 16) (.tmp 18) rfl w4 _ X.heap.size n (fun j => (I j : Nat)) (x : Nat) rfl rfl rfl ho4b.out (by omega) hs4 ?_; intro v6 w6 ho6 hg6 hf6; obtain ⟨s6, c6, rfl⟩ := ho6.form; have hX6 := Lib.hid (below_grown hX4.out (Nat.le_refl _) hg6 (fun p hp => (ho4b.out.lt p hp).1)); have bw0 := (hX6.out.block _ l0).trans b0h.out; have c8 : w6.cell? ⟨w.heap.size, 8, none⟩ = some (.slice si n ci) := (cell_of_block bw0).trans rfl; have f8 := frozen_of_row w6 w.heap.size 8 _ _ bw0; have bw0h := Lib.hid bw0; have ho6h := Lib.hid ho6; clear ho6 hg6 hf6 bw0)
  clear c8 f8
  have hs6 := hX6.out.size
  have bv0 : (w6.setCell ⟨w.heap.size, 8, none⟩ (.slice s6 (n + 1) c6)).heap[w.heap.size]? = some (.cells #[.int .i64 now, .int .i64 most, .int .i64 calm, .int .i64 (size : Nat), .int .i64 (age : Nat), .int .i64 (old : Nat), .int .u32 (no : Nat), .int .u32 (fi : Nat), .slice s6 (n + 1) c6] 37 (0, 0)) := blk_set bw0h.out 8 _
  have hd := only_set (only_refl w6 (some w.heap.size)) 8 (.slice s6 (n + 1) c6)
  have hBY := Lib.hid ((hBX.out.trans (hX6.out.mono hwX)).setCell (p := ⟨w.heap.size, 8, none⟩) (Nat.le_refl _) (.slice s6 (n + 1) c6))
  have bY1 := blk_of ((hd.block _ (by omega) (fun e => n1 (by injection e))).trans ((hX6.out.block _ l1).trans b1h.out))
  have bY2 := blk_of ((hd.block _ (by omega) (fun e => n2 (by injection e))).trans ((hX6.out.block _ l2).trans b2h.out))
  have hoY : Hid (OwnZ (w6.setCell ⟨w.heap.size, 8, none⟩ (.slice s6 (n + 1) c6)) X.heap.size 39 .u16 (.slice s6 (n + 1) c6) (n + 1) (fun j => ((gbAddS ⟨⟨now, most, calm⟩, size, age, no, fi, old, n, I⟩ x).I j : Nat))) := hide ((ho6h.out.congr hcg.out).kept2 hd (.inr (fun e => by have := (ho6h.out.lt _ e).1; omega)))
  have hsY := hd.size
  clear hd ho6h
  generalize World.setCell w6 _ _ = Y at *
  have y8 : Y.cell? ⟨w.heap.size, 8, none⟩ = some (.slice s6 (n + 1) c6) := (cell_of_block bv0).trans rfl
  have y3 : Y.cell? ⟨w.heap.size, 3, none⟩ = some (.int .i64 (size : Nat)) := (cell_of_block bv0).trans rfl
  have bY0 := blk_of bv0
  clear bv0
  by_cases hlt : n + 1 < size
  · have e0 : (n : Int) + 1 < (size : Int) := by omega
    have hyesh := Lib.hid (hyes.out hlt)
    obtain ⟨t1, t2, _, _⟩ := two_set (A := #[.int .i64 now, .int .i64 most, .int .i64 calm, .int .i64 (size : Nat), .int .i64 (age : Nat), .int .i64 (old : Nat), .int .u32 (no : Nat), .int .u32 (fi : Nat), .slice s6 (n + 1) c6]) (B := #[.int .u32 0, .int .u32 0, .int .i64 0, .int .i64 0, .slice none 0 0]) (blk_heap bY1) (blk_heap bY2) n3.symm
    have t1h := Lib.hid t1
    have t2h := Lib.hid t2
    have hbf : Hid (Below w.heap.size w ((Y.setRow (w.heap.size + 1) #[.int .i64 now, .int .i64 most, .int .i64 calm, .int .i64 (size : Nat), .int .i64 (age : Nat), .int .i64 (old : Nat), .int .u32 (no : Nat), .int .u32 (fi : Nat), .slice s6 (n + 1) c6]).setRow (w.heap.size + 1 + 1) #[.int .u32 0, .int .u32 0, .int .i64 0, .int .i64 0, .slice none 0 0])) := hide (below_setRow (below_setRow hBY.out (by omega) _) (by omega) _)
    have hof : Hid (OwnZ ((Y.setRow (w.heap.size + 1) #[.int .i64 now, .int .i64 most, .int .i64 calm, .int .i64 (size : Nat), .int .i64 (age : Nat), .int .i64 (old : Nat), .int .u32 (no : Nat), .int .u32 (fi : Nat), .slice s6 (n + 1) c6]).setRow (w.heap.size + 1 + 1) #[.int .u32 0, .int .u32 0, .int .i64 0, .int .i64 0, .slice none 0 0]) base 39 .u16 (.slice s6 (n + 1) c6) (n + 1) (fun j => ((gbAddS ⟨⟨now, most, calm⟩, size, age, no, fi, old, n, I⟩ x).I j : Nat))) := hide (by
      have g1 : Y.grownBy (Y.setRow (w.heap.size + 1) #[.int .i64 now, .int .i64 most, .int .i64 calm, .int .i64 (size : Nat), .int .i64 (age : Nat), .int .i64 (old : Nat), .int .u32 (no : Nat), .int .u32 (fi : Nat), .slice s6 (n + 1) c6]) (some (w.heap.size + 1)) := only_setRow (only_refl Y _) (.inl rfl) _
      have g2 : (Y.setRow (w.heap.size + 1) #[.int .i64 now, .int .i64 most, .int .i64 calm, .int .i64 (size : Nat), .int .i64 (age : Nat), .int .i64 (old : Nat), .int .u32 (no : Nat), .int .u32 (fi : Nat), .slice s6 (n + 1) c6]).grownBy ((Y.setRow (w.heap.size + 1) #[.int .i64 now, .int .i64 most, .int .i64 calm, .int .i64 (size : Nat), .int .i64 (age : Nat), .int .i64 (old : Nat), .int .u32 (no : Nat), .int .u32 (fi : Nat), .slice s6 (n + 1) c6]).setRow (w.heap.size + 1 + 1) #[.int .u32 0, .int .u32 0, .int .i64 0, .int .i64 0, .slice none 0 0]) (some (w.heap.size + 1 + 1)) := only_setRow (only_refl _ _) (.inl rfl) _
      exact ((hoY.out.kept2 g1 (.inr (fun e => by have := (hoY.out.lt _ e).1; omega))).kept2 g2 (.inr (fun e => by have := (hoY.out.lt _ e).1; omega))).base (by omega))
    have hfr : Hid (∀ b, (.slice s6 (n + 1) c6 : Value).ownBlock = some b → (Value.slice si n ci).ownBlock = some b ∨ w.heap.size ≤ b) := hide (fun b hb => .inr (by have := (hoY.out.lt b hb).1; omega))
    have hr1h := Lib.hid (hr1.out s6 c6)
    have hSnh := hSn
    clear t1 t2 hyes hno kcl
    go_wp2_with fail
    refine bodyPost_ret (v := .tuple #[.agg #[.int .i64 now, .int .i64 most, .int .i64 calm, .int .i64 (size : Nat), .int .i64 (age : Nat), .int .i64 (old : Nat), .int .u32 (no : Nat), .int .u32 (fi : Nat), .slice s6 (n + 1) c6], .agg #[.int .u32 0, .int .u32 0, .int .i64 0, .int .i64 0, .slice none 0 0], .bool false]) (results_2t rfl _ _ (w.heap.size + 1) 37 _ (0, 0) _ (w.heap.size + 1 + 1) 44 _ (0, 0) _ _ rfl rfl rfl t1h.out t2h.out Try.underlying37 rfl rb_info Try.underlying44 rfl gw_info) rfl ?_
    rw [hyesh.out]
    exact ⟨.slice s6 (n + 1) c6, by rw [hSn.out]; exact hof.out, hfr.out, hbf.out, rfl⟩
  · have e0 : decide ((n : Int) + 1 < (size : Int)) = false := decide_eq_false (by omega)
    have hnoh := Lib.hid (hno.out hlt)
    have kcl3 : Hid (Calls Try.prog 28 #[.agg #[.int .i64 now, .int .i64 most, .int .i64 calm, .int .i64 (size : Nat), .int .i64 (age : Nat), .int .i64 (old : Nat), .int .u32 (no : Nat), .int .u32 (fi : Nat), .slice s6 (n + 1) c6], .int .i64 loss] Y (ClPost Y (gbAddS ⟨⟨now, most, calm⟩, size, age, no, fi, old, n, I⟩ x) loss)) := hide (by
      obtain ⟨s7, c7, e, hz7, _⟩ := hoY.out.open
      injection e with e1 e2 e3
      subst e1
      exact kcl.out Y s6 c6 hz7)
    have bY1h := Lib.hid (blk_heap bY1)
    have bY2h := Lib.hid (blk_heap bY2)
    clear hyes hno kcl bY1 bY2 hr1 hSn hoY hcg
    generalize gbAddS ⟨⟨now, most, calm⟩, size, age, no, fi, old, n, I⟩ x = S1 at *
    unfold ClPost at kcl3
    have hn' : Hid ((gbClo S1 loss).n = 0) := hide (by unfold gbClo; rfl)
    generalize gbGrp S1 loss = G at *
    obtain ⟨g1, g2, g3, g4, g5⟩ := G
    simp only at kcl3
    generalize gbClo S1 loss = S2 at *
    go_wp2_with fail
    refine kcl3.out.mono ?_
    rintro e W2 ⟨sd, cap, rfl, hos, hb2⟩
    obtain ⟨⟨nw2, mo2, ca2⟩, si2, ag2, no2, fi2, ol2, nn2, I2⟩ := S2
    unfold rbA
    simp only
    have hB2 := Lib.hid (hBY.out.trans (hb2.mono (by omega)))
    have b12 := Lib.hid ((hb2.block _ (by omega)).trans bY1h.out)
    have b22 := Lib.hid ((hb2.block _ (by omega)).trans bY2h.out)
    have hosh := Lib.hid (hos.base (show w.heap.size ≤ Y.heap.size by omega))
    have hs2 := hb2.size
    clear hos hb2 y8 y3 bY0
    go_upto_region 6 with (fail)
    obtain ⟨x0, x1, x2, x3⟩ := boxed2 W2 #[.int .i64 0, .int .i64 0, .int .i64 0, .int .i64 0, .int .i64 0, .int .i64 0, .int .u32 0, .int .u32 0, .slice none 0 0] #[.int .u32 0, .int .u32 0, .int .i64 0, .int .i64 0, .slice none 0 0] #[.int .i64 nw2, .int .i64 mo2, .int .i64 ca2, .int .i64 (si2 : Nat), .int .i64 (ag2 : Nat), .int .i64 (ol2 : Nat), .int .u32 (no2 : Nat), .int .u32 (fi2 : Nat), .slice none 0 0] #[.int .u32 (g1 : Nat), .int .u32 (g2 : Nat), .int .i64 (g3 : Nat), .int .i64 (g4 : Nat), .slice sd (g3 + g4) cap] 37 44
    generalize World.setRow (World.setRow (World.alloc (World.alloc W2 _) _) _ _) _ _ = V at *
    obtain ⟨q, hq⟩ : ∃ q, W2.heap.size = q := ⟨_, rfl⟩
    rw [hq] at x0 x1 ⊢
    have n4 : w.heap.size + 1 ≠ q := by omega
    have n5 : w.heap.size + 1 + 1 ≠ q := by omega
    have n6 : w.heap.size + 1 ≠ q + 1 := by omega
    have n7 : w.heap.size + 1 + 1 ≠ q + 1 := by omega
    have bv0 := blk_of x0
    have bv1 := blk_of x1
    have hBV := Lib.hid (hB2.out.trans (x3.mono (by omega)))
    have bV1 := blk_of ((x3.block _ (by omega)).trans b12.out)
    have bV2 := blk_of ((x3.block _ (by omega)).trans b22.out)
    have dV1 : V.drew.heap[w.heap.size + 1]? = some (.cells #[.int .i64 0, .int .i64 0, .int .i64 0, .int .i64 0, .int .i64 0, .int .i64 0, .int .u32 0, .int .u32 0, .slice none 0 0] 37 (0, 0)) := blk_heap (w := V) bV1
    have dV2 : V.drew.heap[w.heap.size + 1 + 1]? = some (.cells #[.int .u32 0, .int .u32 0, .int .i64 0, .int .i64 0, .slice none 0 0] 44 (0, 0)) := blk_heap (w := V) bV2
    have hts := Lib.hid (two_set (w := V.drew) (A := #[.int .i64 nw2, .int .i64 mo2, .int .i64 ca2, .int .i64 (si2 : Nat), .int .i64 (ag2 : Nat), .int .i64 (ol2 : Nat), .int .u32 (no2 : Nat), .int .u32 (fi2 : Nat), .slice none 0 0]) (B := #[.int .u32 (g1 : Nat), .int .u32 (g2 : Nat), .int .i64 (g3 : Nat), .int .i64 (g4 : Nat), .slice sd (g3 + g4) cap]) dV1 dV2 n3.symm)
    have hfo := Lib.hid (own_two (w := V.drew) ((hosh.out.below x3).below (below_drewN (Below.refl _ _) 1)) dV1 dV2 n3.symm (by decide) (by decide) (by decide) (by decide) #[.int .i64 nw2, .int .i64 mo2, .int .i64 ca2, .int .i64 (si2 : Nat), .int .i64 (ag2 : Nat), .int .i64 (ol2 : Nat), .int .u32 (no2 : Nat), .int .u32 (fi2 : Nat), .slice none 0 0] #[.int .u32 (g1 : Nat), .int .u32 (g2 : Nat), .int .i64 (g3 : Nat), .int .i64 (g4 : Nat), .slice sd (g3 + g4) cap])
    have hbo : Hid (∀ (A B : Array Value), Below w.heap.size w ((V.drew.setRow (w.heap.size + 1) A).setRow (w.heap.size + 1 + 1) B) ∧ Below w.heap.size w ((V.drew.setRow (w.heap.size + 1 + 1) B).setRow (w.heap.size + 1) A)) := hide (fun A B => ⟨below_setRow (below_setRow (below_drewN hBV.out 1) (by omega) A) (by omega) B, below_setRow (below_setRow (below_drewN hBV.out 1) (by omega) B) (by omega) A⟩)
    clear x0 x1 x2 x3 hq dV1 dV2
    have hn0' : nn2 = 0 := hn'.out
    subst hn0'
    go_region
    all_goals (go_wp2_with fail)
    all_goals (
      refine bodyPost_ret (v := .tuple #[.agg #[.int .i64 nw2, .int .i64 mo2, .int .i64 ca2, .int .i64 (si2 : Nat), .int .i64 (ag2 : Nat), .int .i64 (ol2 : Nat), .int .u32 (no2 : Nat), .int .u32 (fi2 : Nat), .slice none 0 0], .agg #[.int .u32 (g1 : Nat), .int .u32 (g2 : Nat), .int .i64 (g3 : Nat), .int .i64 (g4 : Nat), .slice sd (g3 + g4) cap], .bool true]) (results_2t rfl _ _ (w.heap.size + 1) 37 _ (0, 0) _ (w.heap.size + 1 + 1) 44 _ (0, 0) _ _ rfl rfl rfl (by first | exact hts.out.1 | exact hts.out.2.2.1) (by first | exact hts.out.2.1 | exact hts.out.2.2.2) Try.underlying37 rfl rb_info Try.underlying44 rfl gw_info) rfl ?_
      rw [hnoh.out]
      exact ⟨.slice none 0 0, OwnZ.nil _ _ _ _ _, fun b hb => by simp [Value.ownBlock] at hb, by first | exact (hbo.out _ _).1 | exact (hbo.out _ _).2, sd, cap, rfl, by first | exact hfo.out.1 | exact hfo.out.2⟩)
end Go.Proofs.Ytipfoclmdbbjiaa
