import Derived.Test.YtipfoclmdbbjiaaGrTell
import Derived.Test.YtipfoclmdbbjiaaGrSame
import Derived.Deep.QuietTactic
/- The document's builder: closed. Conditions: what its inputs read as. -/
namespace Go.Proofs.Ytipfoclmdbbjiaa
open Go.RowKit
set_option maxRecDepth 100000 in
theorem rb_info : (Try.prog.info? 37).map (·.size) = some 9 := by kernel_rfl
set_option maxRecDepth 100000 in
theorem rb_size (a b c d e f g h i : Value) : #[a, b, c, d, e, f, g, h, i].size = 9 := rfl
set_option maxRecDepth 100000 in
theorem rb_plain (k0 k1 k2 k3 k4 k5 k6 k7 : IntKind) (x0 x1 x2 x3 x4 x5 x6 x7 : Int) (s : Option Addr) (n m : Nat) : Plain #[.int k0 x0, .int k1 x1, .int k2 x2, .int k3 x3, .int k4 x4, .int k5 x5, .int k6 x6, .int k7 x7, .slice s n m] := by unfold Plain; simp [Value.oneCell']
set_option maxRecDepth 100000 in
theorem ld_b0 (v : Value) : Instr.loadAt 37 v = wLoad 37 v := rfl
set_option maxRecDepth 100000 in
theorem ld_b (w : World) (b : Nat) : (wLoad 37 (.pointer (some ⟨b, 0, none⟩))).run Try.prog w = loadAns 9 w (blk w b) (wLoadRes Try.prog 37 b w) := run_wLoad Try.underlying37 rfl rb_info w b
set_option maxRecDepth 100000 in
theorem sto_b0 (p x : Value) : Instr.storeAt 37 p x = wStore 37 p x := rfl
set_option maxRecDepth 100000 in
theorem sto_b (w : World) (b : Nat) (C : Array Value) : (wStore 37 (.pointer (some ⟨b, 0, none⟩)) (.agg C)).run Try.prog w = storeAns 9 w b C (blk w b) (wStoreRes Try.prog 37 b C w) := run_wStore rb_info w b C
set_option maxRecDepth 100000 in
theorem zeroRB (w : World) : (zeroValue 37).run Try.prog w = .ok (.agg #[.int .i64 0, .int .i64 0, .int .i64 0, .int .i64 0, .int .i64 0, .int .i64 0, .int .u32 0, .int .u32 0, .slice none 0 0]) w := by kernel_rfl
set_option maxRecDepth 100000 in
theorem results_row2G {P : Program} {fn : Func} {p q : Tmp} {ty ty2 : TypeId} (h : fn.results = #[.cell p ty, .cell q ty2]) (tmps : Array Value) (w : World) (g : Nat) (t : TypeId) (cs : Array Value) (fr : Nat × Nat) (d : TypeDesc) (g2 : Nat) (t2 : TypeId) (cs2 : Array Value) (fr2 : Nat × Nat) (d2 : TypeDesc)
    (hp : tmps.getD p undef = .pointer (some ⟨g, 0, none⟩)) (hq : tmps.getD q undef = .pointer (some ⟨g2, 0, none⟩)) (hg : w.heap[g]? = some (.cells cs t fr)) (hg2 : w.heap[g2]? = some (.cells cs2 t2 fr2))
    (hu : P.underlying ty = some d) (hd : (match d with | .struct _ | .array _ _ => true | _ => false) = true) (hi : (P.info? ty).map (·.size) = some cs.size)
    (hu2 : P.underlying ty2 = some d2) (hd2 : (match d2 with | .struct _ | .array _ _ => true | _ => false) = true) (hi2 : (P.info? ty2).map (·.size) = some cs2.size) :
    (results fn tmps).run P w = .ok (.tuple #[.agg cs, .agg cs2]) w := by
  have hp' : tmps[p]?.getD undef = .pointer (some ⟨g, 0, none⟩) := by simpa using hp
  have hq' : tmps[q]?.getD undef = .pointer (some ⟨g2, 0, none⟩) := by simpa using hq
  simp [results, h, hp', hq', asAddr, Sem.run_bind, run_loadVar_row w g t ty cs fr d hg hu hd hi, run_loadVar_row w g2 t2 ty2 cs2 fr2 d2 hg2 hu2 hd2 hi2]
set_option maxRecDepth 100000 in
theorem three_boxesG (w : World) (A B C : Obj) :
    (((w.alloc A).alloc B).alloc C).heap[w.heap.size]? = some A ∧ (((w.alloc A).alloc B).alloc C).heap[w.heap.size + 1]? = some B ∧ (((w.alloc A).alloc B).alloc C).heap[w.heap.size + 1 + 1]? = some C ∧
    (((w.alloc A).alloc B).alloc C).heap.size = w.heap.size + 3 ∧ Below w.heap.size w (((w.alloc A).alloc B).alloc C) := three_allocs w A B C
/-- a builder of the document as a value -/
def rbA (s : GbS) (v : Value) : Array Value := #[.int .i64 s.ct.now, .int .i64 s.ct.most, .int .i64 s.ct.calm, .int .i64 (s.size : Nat), .int .i64 (s.age : Nat), .int .i64 (s.old : Nat), .int .u32 (s.no : Nat), .int .u32 (s.fi : Nat), v]
set_option maxRecDepth 100000 in
/-- two rows are written, in either order -/
theorem two_set {w : World} {a b : Nat} {A B A0 B0 : Array Value} {T U : TypeId} (ha : w.heap[a]? = some (.cells A0 T (0, 0))) (hb : w.heap[b]? = some (.cells B0 U (0, 0))) (hne : a ≠ b) :
    ((w.setRow a A).setRow b B).heap[a]? = some (.cells A T (0, 0)) ∧ ((w.setRow a A).setRow b B).heap[b]? = some (.cells B U (0, 0)) ∧ ((w.setRow b B).setRow a A).heap[a]? = some (.cells A T (0, 0)) ∧ ((w.setRow b B).setRow a A).heap[b]? = some (.cells B U (0, 0)) :=
  ⟨(setRow_other _ _ _ _ hne).trans (setRow_heap _ _ _ _ _ _ ha), setRow_heap _ _ _ _ _ _ ((setRow_other _ _ _ _ hne.symm).trans hb), setRow_heap _ _ _ _ _ _ ((setRow_other _ _ _ _ hne).trans ha), (setRow_other _ _ _ _ hne.symm).trans (setRow_heap _ _ _ _ _ _ hb)⟩
set_option maxRecDepth 100000 in
theorem OwnS.keptT {w w' : World} {base m n q : Nat} {v : Value} {V : Nat → Nat → Nat} {C : Array Value} {T : TypeId} {fr : Nat × Nat} (h : OwnS w base v m n V) (hg : w.grownBy w' (some q)) (hq : w.heap[q]? = some (.cells C T fr)) (h1 : T ≠ 58) (h2 : T ≠ 5) : OwnS w' base v m n V := by
  refine h.kept hg ?_ (fun r hr => ?_)
  · rcases hv : v.ownBlock with _ | r
    · exact .inl rfl
    · refine .inr (fun e => ?_)
      injection e with e
      subst e
      obtain ⟨A, h3, _⟩ := h
      obtain ⟨cur, f, h4⟩ := own_type h3 r hv
      exact ty_ne h4 hq (fun e => h1 e.symm) rfl
  · injection hr with hr
    subst hr
    exact ⟨_, _, _, hq, h2⟩
set_option maxRecDepth 100000 in
/-- two rows of other types are written, in either order -/
theorem own_two {w : World} {a b base m n : Nat} {v : Value} {V : Nat → Nat → Nat} {A0 B0 : Array Value} {T U : TypeId} (h : OwnS w base v m n V) (ha : w.heap[a]? = some (.cells A0 T (0, 0))) (hb : w.heap[b]? = some (.cells B0 U (0, 0))) (hne : a ≠ b) (t1 : T ≠ 58) (t2 : T ≠ 5) (u1 : U ≠ 58) (u2 : U ≠ 5) (A B : Array Value) :
    OwnS ((w.setRow a A).setRow b B) base v m n V ∧ OwnS ((w.setRow b B).setRow a A) base v m n V :=
  ⟨own_setG (own_setG h ha t1 t2 A) ((setRow_other _ _ _ _ hne.symm).trans hb) u1 u2 B, own_setG (own_setG h hb u1 u2 B) ((setRow_other _ _ _ _ hne).trans ha) t1 t2 A⟩
def ClPost (W : World) (s : GbS) (loss : Int) (e : Ending) (W' : World) : Prop :=
  ∃ sd cap, e = .returned (.tuple #[.agg (rbA (gbClo s loss) (.slice none 0 0)), .agg #[.int .u32 ((gbGrp s loss).1 : Nat), .int .u32 ((gbGrp s loss).2.1 : Nat), .int .i64 ((gbGrp s loss).2.2.1 : Nat), .int .i64 ((gbGrp s loss).2.2.2.1 : Nat), .slice sd ((gbGrp s loss).2.2.1 + (gbGrp s loss).2.2.2.1) cap]]) ∧
    OwnS W' W.heap.size (.slice sd ((gbGrp s loss).2.2.1 + (gbGrp s loss).2.2.2.1) cap) ((gbGrp s loss).2.2.1 + (gbGrp s loss).2.2.2.1) 2 (grD (gbGrp s loss).2.2.1 (gbGrp s loss).2.2.2.2) ∧ Below W.heap.size W W'
attribute [local irreducible] gexp gtbl glog rmul rinv rpow zexp mixF blk wLoad wLoadRes loadAns wStore wStoreRes storeAns Plain flF BRow MRow MAt By IsGf ivS rsF mlF RowsAt paF OwnS SlR dtF inV grD
attribute [local go_sem ↓] ld_w0 sto_w0 ld_b0 sto_b0
attribute [local go_sem] ld_w sto_w ld_b sto_b loadAns_some storeAns_some gg_size gg_plain rb_size rb_plain blk_alloc_if blk_setRow_if blk_drew_at blk_drewN_at rowPut_some blk_setCell_if cellPut_some
set_option maxRecDepth 100000 in
set_option maxHeartbeats 8000000 in
theorem r_closed (s : GbS) (si : Option Addr) (ci : Nat) (loss : Int) (w : World) (hz0 : ZAt w .u16 si s.n (fun j => (s.I j : Nat))) (ok : GbOk s) (h0 : 1 ≤ s.n) :
    Calls Try.prog 28 #[.agg (rbA s (.slice si s.n ci)), .int .i64 loss] w (ClPost w s loss) := by
  have hzb := zeroRB
  have hzg := zeroGW
  have htb := tgZ_bd s.n loss s.ct.most
  have hmb := ok.ct.m1
  have hm0 := ok.ct.m0
  have hcok : CtOk (ctNext s.ct (tgZ s.n loss s.ct.most)) := ctNext_ok _ _ ok.ct htb.1 htb.2
  obtain ⟨M, hM⟩ : ∃ M : Nat, (ctNext s.ct (tgZ s.n loss s.ct.most)).now = M := ⟨(ctNext s.ct (tgZ s.n loss s.ct.most)).now.toNat, by have := hcok.n0; omega⟩
  have hM16 : M ≤ 16 := by have := hcok.n1; omega
  have kne := Lib.hid (fun y => r_next s.ct s.n loss y ok.ct htb.1 (by omega))
  have kmk := Lib.hid (fun y (h2 : ZAt y .u16 si s.n (fun j => (s.I j : Nat))) => r_make s.n M s.no s.fi s.I si ci y h2 ok.I h0 ok.n hM16)
  have hgrp : Hid (gbGrp s loss = (s.no, s.fi, s.n, M, s.I)) := hide (by unfold gbGrp gbClo; simp only; rw [hM]; rfl)
  have hclo : Hid (gbClo s loss = { s with ct := ctNext s.ct (tgZ s.n loss s.ct.most), no := (s.no + 1) % 4294967296, fi := (s.fi + s.n) % 4294967296, old := 0, n := 0 }) := hide rfl
  have hpost : Hid (∀ e W', (∃ sd cap, e = .returned (.tuple #[.agg (rbA (gbClo s loss) (.slice none 0 0)), .agg #[.int .u32 (s.no : Nat), .int .u32 (s.fi : Nat), .int .i64 (s.n : Nat), .int .i64 (M : Nat), .slice sd (s.n + M) cap]]) ∧ OwnS W' w.heap.size (.slice sd (s.n + M) cap) (s.n + M) 2 (grD s.n s.I) ∧ Below w.heap.size w W') → ClPost w s loss e W') := hide (fun e W' h => by unfold ClPost; rw [hgrp.out]; exact h)
  rw [hclo.out] at hpost
  obtain ⟨c', hc'⟩ : ∃ c', ctNext s.ct (tgZ s.n loss s.ct.most) = c' := ⟨_, rfl⟩
  rw [hc'] at hM kne hpost
  have hzh := Lib.hid hz0
  have hn16 := ok.n
  have hno := ok.no
  have hfi := ok.fi
  clear htb hmb hm0 hcok hc' ok hz0 hgrp hclo
  obtain ⟨ct, size, age, no, fi, old, n, I⟩ := s
  obtain ⟨now, most, calm⟩ := ct
  obtain ⟨now', most', calm'⟩ := c'
  simp only at hM hpost kne kmk hzh hn16 hno hfi h0 ⊢
  subst hM
  unfold ctA at kne
  unfold rbA at hpost ⊢
  simp only at hpost ⊢
  obtain ⟨N1, hN1⟩ : ∃ N1 : Nat, (no + 1) % 4294967296 = N1 := ⟨_, rfl⟩
  obtain ⟨F1, hF1⟩ : ∃ F1 : Nat, (fi + n) % 4294967296 = F1 := ⟨_, rfl⟩
  rw [hN1, hF1] at hpost
  have e1 := Lib.hid (show ((no : Int) + 1) % 4294967296 = (N1 : Int) by omega)
  have e2 := Lib.hid (show ((fi : Int) + (n : Int)) % 4294967296 = (F1 : Int) by omega)
  clear hN1 hF1
  obtain ⟨b0, b1, b2, hsz, hB⟩ := three_boxesG w (.cells #[.int .i64 now, .int .i64 most, .int .i64 calm, .int .i64 (size : Nat), .int .i64 (age : Nat), .int .i64 (old : Nat), .int .u32 (no : Nat), .int .u32 (fi : Nat), .slice si n ci] 37) (.cells #[.int .i64 0, .int .i64 0, .int .i64 0, .int .i64 0, .int .i64 0, .int .i64 0, .int .u32 0, .int .u32 0, .slice none 0 0] 37) (.cells #[.int .u32 0, .int .u32 0, .int .i64 0, .int .i64 0, .slice none 0 0] 44)
  go_enter Try.func28, Try.ntmps28
  go_upto_region 1 with (fail)
  generalize World.alloc (World.alloc (World.alloc w _) _) _ = X at *
  have hwX : w.heap.size ≤ X.heap.size := by omega
  have l0 : w.heap.size < X.heap.size := by omega
  have l1 : w.heap.size + 1 < X.heap.size := by omega
  have l2 : w.heap.size + 1 + 1 < X.heap.size := by omega
  have hBX := Lib.hid hB
  have x0 : X.cell? ⟨w.heap.size, 0, none⟩ = some (.int .i64 now) := (cell_of_block b0).trans rfl
  have x1 : X.cell? ⟨w.heap.size, 1, none⟩ = some (.int .i64 most) := (cell_of_block b0).trans rfl
  have x2 : X.cell? ⟨w.heap.size, 2, none⟩ = some (.int .i64 calm) := (cell_of_block b0).trans rfl
  have x8 : X.cell? ⟨w.heap.size, 8, none⟩ = some (.slice si n ci) := (cell_of_block b0).trans rfl
  have b0h := Lib.hid b0
  have b1h := Lib.hid b1
  have b2h := Lib.hid b2
  clear b0 b1 b2 hB hsz
  go_wp2_with fail
  refine (kne.out X).mono ?_
  rintro e W1 ⟨rfl, hb1⟩
  unfold ctA
  simp only
  have b01 := (hb1.block _ l0).trans b0h.out
  have hB1 := Lib.hid (hBX.out.trans (hb1.mono hwX))
  have b11 := Lib.hid ((hb1.block _ l1).trans b1h.out)
  have b21 := Lib.hid ((hb1.block _ l2).trans b2h.out)
  have hs1 := hb1.size
  have y0 : W1.cell? ⟨w.heap.size, 0, none⟩ = some (.int .i64 now) := (cell_of_block b01).trans rfl
  have y1 : W1.cell? ⟨w.heap.size, 1, none⟩ = some (.int .i64 most) := (cell_of_block b01).trans rfl
  have y2 : W1.cell? ⟨w.heap.size, 2, none⟩ = some (.int .i64 calm) := (cell_of_block b01).trans rfl
  have f0 := frozen_of_row W1 w.heap.size 0 _ _ b01
  have f1 := frozen_of_row W1 w.heap.size 1 _ _ b01
  have f2 := frozen_of_row W1 w.heap.size 2 _ _ b01
  have b01h := Lib.hid b01
  clear hb1 b01 x0 x1 x2 x8
  go_upto_region 2 with (fail)
  clear y0 y1 y2 f0 f1 f2
  have bv1 : (((W1.setCell ⟨w.heap.size, 0, none⟩ (.int .i64 (M : Nat))).setCell ⟨w.heap.size, 1, none⟩ (.int .i64 most')).setCell ⟨w.heap.size, 2, none⟩ (.int .i64 calm')).heap[w.heap.size]? = some (.cells #[.int .i64 (M : Nat), .int .i64 most', .int .i64 calm', .int .i64 (size : Nat), .int .i64 (age : Nat), .int .i64 (old : Nat), .int .u32 (no : Nat), .int .u32 (fi : Nat), .slice si n ci] 37 (0, 0)) := blk_set (blk_set (blk_set b01h.out 0 _) 1 _) 2 _
  have hd1 := Lib.hid (only_set (only_set (only_set (only_refl W1 (some w.heap.size)) 0 (.int .i64 (M : Nat))) 1 (.int .i64 most')) 2 (.int .i64 calm'))
  have hBV1 := Lib.hid (((hB1.out.setCell (p := ⟨w.heap.size, 0, none⟩) (Nat.le_refl _) (.int .i64 (M : Nat))).setCell (p := ⟨w.heap.size, 1, none⟩) (Nat.le_refl _) (.int .i64 most')).setCell (p := ⟨w.heap.size, 2, none⟩) (Nat.le_refl _) (.int .i64 calm'))
  generalize World.setCell (World.setCell (World.setCell W1 _ _) _ _) _ _ = V1 at *
  have y0 : V1.cell? ⟨w.heap.size, 0, none⟩ = some (.int .i64 (M : Nat)) := (cell_of_block bv1).trans rfl
  have y6 : V1.cell? ⟨w.heap.size, 6, none⟩ = some (.int .u32 (no : Nat)) := (cell_of_block bv1).trans rfl
  have y7 : V1.cell? ⟨w.heap.size, 7, none⟩ = some (.int .u32 (fi : Nat)) := (cell_of_block bv1).trans rfl
  have y8 : V1.cell? ⟨w.heap.size, 8, none⟩ = some (.slice si n ci) := (cell_of_block bv1).trans rfl
  have bv1h := Lib.hid bv1
  have hsV := hd1.out.size
  clear bv1
  go_wp2_with fail
  refine (kmk.out V1 (hzh.out.below hBV1.out)).mono ?_
  rintro e W2 ⟨sd, cap, rfl, hos, hb2⟩
  have hB2 := Lib.hid (hBV1.out.trans (hb2.mono (by omega)))
  have bv2 := Lib.hid ((hb2.block _ (by omega)).trans bv1h.out)
  have b12 := Lib.hid ((hb2.block _ (by omega)).trans ((hd1.out.block _ (by omega) (fun e => by injection e with e; omega)).trans b11.out))
  have b22 := Lib.hid ((hb2.block _ (by omega)).trans ((hd1.out.block _ (by omega) (fun e => by injection e with e; omega)).trans b21.out))
  have hosh := Lib.hid (hos.base (show w.heap.size ≤ V1.heap.size by omega))
  have hs2 := hb2.size
  clear hos hb2 y0 y6 y7 y8
  go_upto_region 3 with (fail)
  obtain ⟨x0, x1, x2⟩ := boxed W2 #[.int .u32 0, .int .u32 0, .int .i64 0, .int .i64 0, .slice none 0 0] #[.int .u32 (no : Nat), .int .u32 (fi : Nat), .int .i64 (n : Nat), .int .i64 (M : Nat), .slice sd (n + M) cap] 44
  generalize World.setRow (World.alloc W2 _) _ _ = V2 at *
  have hB3 := Lib.hid (hB2.out.trans (x2.mono (by omega)))
  have bv3 := (x2.block _ (by omega)).trans bv2.out
  have b13 := Lib.hid ((x2.block _ (by omega)).trans b12.out)
  have b23 := Lib.hid ((x2.block _ (by omega)).trans b22.out)
  have hos3 := Lib.hid (hosh.out.below x2)
  obtain ⟨q, hq⟩ : ∃ q, W2.heap.size = q := ⟨_, rfl⟩
  rw [hq] at x0 x1 ⊢
  have hqR : w.heap.size + 1 + 1 < q := by omega
  have x0h := Lib.hid x0
  have z6 := (cell_of_block bv3 (i := 6)).trans rfl
  have g6 := frozen_of_row V2 w.heap.size 6 _ _ bv3
  have bv3h := Lib.hid bv3
  clear bv3 x0 x2 hq
  go_upto_region 4 with (fail)
  rw [e1.out]
  clear z6 g6
  have bv4 : (V2.setCell ⟨w.heap.size, 6, none⟩ (.int .u32 (N1 : Nat))).heap[w.heap.size]? = some (.cells #[.int .i64 (M : Nat), .int .i64 most', .int .i64 calm', .int .i64 (size : Nat), .int .i64 (age : Nat), .int .i64 (old : Nat), .int .u32 (N1 : Nat), .int .u32 (fi : Nat), .slice si n ci] 37 (0, 0)) := blk_set bv3h.out 6 _
  have hd4 := Lib.hid (only_set (only_refl V2 (some w.heap.size)) 6 (.int .u32 (N1 : Nat)))
  generalize World.setCell V2 _ _ = V3 at *
  have z7 := (cell_of_block bv4 (i := 7)).trans rfl
  have z8 := (cell_of_block bv4 (i := 8)).trans rfl
  have g7 := frozen_of_row V3 w.heap.size 7 _ _ bv4
  have hwn : IntKind.u32.wrap (n : Int) = (n : Int) := by rw [IntKind.wrap_u32]; omega
  have bv4h := Lib.hid bv4
  clear bv4
  go_upto_region 5 with (fail)
  rw [e2.out]
  clear z7 z8 g7 hwn
  have bv5 : (V3.setCell ⟨w.heap.size, 7, none⟩ (.int .u32 (F1 : Nat))).heap[w.heap.size]? = some (.cells #[.int .i64 (M : Nat), .int .i64 most', .int .i64 calm', .int .i64 (size : Nat), .int .i64 (age : Nat), .int .i64 (old : Nat), .int .u32 (N1 : Nat), .int .u32 (F1 : Nat), .slice si n ci] 37 (0, 0)) := blk_set bv4h.out 7 _
  have hd5 := Lib.hid (only_set hd4.out 7 (.int .u32 (F1 : Nat)))
  generalize World.setCell V3 _ _ = V4 at *
  have bv6 : (V4.setCell ⟨w.heap.size, 8, none⟩ (.slice none 0 0)).heap[w.heap.size]? = some (.cells #[.int .i64 (M : Nat), .int .i64 most', .int .i64 calm', .int .i64 (size : Nat), .int .i64 (age : Nat), .int .i64 (old : Nat), .int .u32 (N1 : Nat), .int .u32 (F1 : Nat), .slice none 0 0] 37 (0, 0)) := blk_set bv5 8 _
  have bv7 : ((V4.setCell ⟨w.heap.size, 8, none⟩ (.slice none 0 0)).setCell ⟨w.heap.size, 5, none⟩ (.int .i64 0)).heap[w.heap.size]? = some (.cells #[.int .i64 (M : Nat), .int .i64 most', .int .i64 calm', .int .i64 (size : Nat), .int .i64 (age : Nat), .int .i64 0, .int .u32 (N1 : Nat), .int .u32 (F1 : Nat), .slice none 0 0] 37 (0, 0)) := blk_set bv6 5 _
  have hd7 := Lib.hid (only_set (only_set hd5.out 8 (.slice none 0 0)) 5 (.int .i64 0))
  have z8 := (cell_of_block bv5 (i := 8)).trans rfl
  have g8 := frozen_of_row V4 w.heap.size 8 _ _ bv5
  have z5 := (cell_of_block bv6 (i := 5)).trans rfl
  have g5 := frozen_of_row _ w.heap.size 5 _ _ bv6
  have bv7h := Lib.hid (blk_of bv7)
  clear bv5 bv6 bv7
  go_upto_region 6 with (fail)
  clear z8 g8 z5 g5
  generalize World.setCell (World.setCell V4 _ _) _ _ = Y at *
  have bY := bv7h.out
  have bq := blk_of ((hd7.out.block q (by omega) (fun e => by injection e with e; omega)).trans x0h.out)
  have bY1 := blk_of ((hd7.out.block _ (by omega) (fun e => by injection e with e; omega)).trans b13.out)
  have bY2 := blk_of ((hd7.out.block _ (by omega) (fun e => by injection e with e; omega)).trans b23.out)
  have n1 : w.heap.size + 1 ≠ w.heap.size := by omega
  have n2 : w.heap.size + 1 + 1 ≠ w.heap.size := by omega
  have n3 : w.heap.size + 1 + 1 ≠ w.heap.size + 1 := by omega
  have n4 : w.heap.size ≠ q := by omega
  have n5 : w.heap.size + 1 ≠ q := by omega
  have n6 : w.heap.size + 1 + 1 ≠ q := by omega
  have dY1 : Y.drew.heap[w.heap.size + 1]? = some (.cells #[.int .i64 0, .int .i64 0, .int .i64 0, .int .i64 0, .int .i64 0, .int .i64 0, .int .u32 0, .int .u32 0, .slice none 0 0] 37 (0, 0)) := blk_heap (w := Y) bY1
  have dY2 : Y.drew.heap[w.heap.size + 1 + 1]? = some (.cells #[.int .u32 0, .int .u32 0, .int .i64 0, .int .i64 0, .slice none 0 0] 44 (0, 0)) := blk_heap (w := Y) bY2
  have hosY := hos3.out.keptT hd7.out bv3h.out (by decide) (by decide)
  have hBY := below_grown hB3.out (Nat.le_refl _) hd7.out (fun p hp => by injection hp with hp; omega)
  have hts := Lib.hid (two_set (w := Y.drew) (A := #[.int .i64 (M : Nat), .int .i64 most', .int .i64 calm', .int .i64 (size : Nat), .int .i64 (age : Nat), .int .i64 0, .int .u32 (N1 : Nat), .int .u32 (F1 : Nat), .slice none 0 0]) (B := #[.int .u32 (no : Nat), .int .u32 (fi : Nat), .int .i64 (n : Nat), .int .i64 (M : Nat), .slice sd (n + M) cap]) dY1 dY2 n3.symm)
  have hfo := Lib.hid (own_two (w := Y.drew) (hosY.below (below_drewN (Below.refl _ _) 1)) dY1 dY2 n3.symm (by decide) (by decide) (by decide) (by decide) #[.int .i64 (M : Nat), .int .i64 most', .int .i64 calm', .int .i64 (size : Nat), .int .i64 (age : Nat), .int .i64 0, .int .u32 (N1 : Nat), .int .u32 (F1 : Nat), .slice none 0 0] #[.int .u32 (no : Nat), .int .u32 (fi : Nat), .int .i64 (n : Nat), .int .i64 (M : Nat), .slice sd (n + M) cap])
  have hbo : Hid (∀ (A B : Array Value), Below w.heap.size w ((Y.drew.setRow (w.heap.size + 1) A).setRow (w.heap.size + 1 + 1) B) ∧ Below w.heap.size w ((Y.drew.setRow (w.heap.size + 1 + 1) B).setRow (w.heap.size + 1) A)) := hide (fun A B => ⟨below_setRow (below_setRow (below_drewN hBY 1) (by omega) A) (by omega) B, below_setRow (below_setRow (below_drewN hBY 1) (by omega) B) (by omega) A⟩)
  clear hosY hBY dY1 dY2
  go_region
  all_goals (go_wp2_with fail)
  all_goals (
    refine bodyPost_ret (v := .tuple #[.agg #[.int .i64 (M : Nat), .int .i64 most', .int .i64 calm', .int .i64 (size : Nat), .int .i64 (age : Nat), .int .i64 0, .int .u32 (N1 : Nat), .int .u32 (F1 : Nat), .slice none 0 0], .agg #[.int .u32 (no : Nat), .int .u32 (fi : Nat), .int .i64 (n : Nat), .int .i64 (M : Nat), .slice sd (n + M) cap]]) (results_row2G rfl _ _ (w.heap.size + 1) 37 _ (0, 0) _ (w.heap.size + 1 + 1) 44 _ (0, 0) _ rfl rfl (by first | exact hts.out.1 | exact hts.out.2.2.1) (by first | exact hts.out.2.1 | exact hts.out.2.2.2) Try.underlying37 rfl rb_info Try.underlying44 rfl gw_info) rfl ?_
    exact hpost.out _ _ ⟨sd, cap, rfl, by first | exact hfo.out.1 | exact hfo.out.2, by first | exact (hbo.out _ _).1 | exact (hbo.out _ _).2⟩)
end Go.Proofs.Ytipfoclmdbbjiaa
