import Derived.Test.YtipfoclmdbbjiaaU27
import Derived.Test.YtipfoclmdbbjiaaU12
import Derived.Test.YtipfoclmdbbjiaaU21
/- The builder's New, Add and Tick. Conditions: the builder's block. -/
namespace Go.Proofs.Ytipfoclmdbbjiaa
open Go.RowKit
def gbAddS (s : GbS) (x : Nat) : GbS := { s with n := s.n + 1, I := fun j => if j = s.n then x else s.I j }
def gbAdd (s : GbS) (x : Nat) (loss : Int) : GbS × Option (Nat × Nat × Nat × Nat × (Nat → Nat)) :=
  if (gbAddS s x).n < s.size then (gbAddS s x, none) else (gbClo (gbAddS s x) loss, some (gbGrp (gbAddS s x) loss))
def gbOldS (s : GbS) : GbS := { s with old := s.old + 1 }
def gbTick (s : GbS) (loss : Int) : GbS × Option (Nat × Nat × Nat × Nat × (Nat → Nat)) :=
  if s.n = 0 then (s, none) else if s.old + 1 < s.age then (gbOldS s, none) else (gbClo (gbOldS s) loss, some (gbGrp (gbOldS s) loss))
set_option maxRecDepth 100000 in
theorem GbOk.addS {s : GbS} (h : GbOk s) {x : Nat} (hx : x < 65536) (hn : s.n < s.size) : GbOk (gbAddS s x) :=
  ⟨h.ct, h.s0, h.s1, h.a0, h.a1, h.o1, h.no, h.fi, by have := h.s1; show s.n + 1 ≤ 16; omega, fun j => by show (if j = s.n then x else s.I j) < 65536; split; exact hx; exact h.I j⟩
set_option maxRecDepth 100000 in
theorem GbOk.oldS {s : GbS} (h : GbOk s) (ho : s.old < s.age) : GbOk (gbOldS s) :=
  ⟨h.ct, h.s0, h.s1, h.a0, h.a1, by have := h.a1; show s.old + 1 ≤ 4096; omega, h.no, h.fi, h.n, h.I⟩
set_option maxRecDepth 100000 in
theorem GbOk.clo {s : GbS} (h : GbOk s) (loss : Int) : GbOk (gbClo s loss) := by
  have ht := tgZ_bd s.n loss s.ct.most
  exact ⟨ctNext_ok _ _ h.ct ht.1 ht.2, h.s0, h.s1, h.a0, h.a1, by show 0 ≤ 4096; omega, Nat.mod_lt _ (by decide), Nat.mod_lt _ (by decide), by show 0 ≤ 16; omega, h.I⟩
set_option maxRecDepth 100000 in
theorem Kb.trans {W W1 W2 : World} {bp cp : Nat} {v v1 : Value} (h : Kb W W1 bp cp v) (k : Kb W1 W2 bp cp v1) (hv : ∀ b, v1.ownBlock = some b → v.ownBlock = some b ∨ W.heap.size ≤ b) : Kb W W2 bp cp v :=
  ⟨k.os.trans h.os, k.tape.trans h.tape, k.output.trans h.output, Nat.le_trans h.size k.size, fun q h1 h2 h3 h4 => (k.block q (Nat.lt_of_lt_of_le h1 h.size) h2 h3 (fun e => by
    rcases hv q e with h5 | h5
    · exact h4 h5
    · omega)).trans (h.block q h1 h2 h3 h4)⟩
set_option maxRecDepth 100000 in
theorem GpOut.base {W W1 W' : World} {o : Option (Nat × Nat × Nat × Nat × (Nat → Nat))} {e : Ending} (h : GpOut W1 o e W') (hs : W.heap.size ≤ W1.heap.size) : GpOut W o e W' := by
  rcases o with _ | ⟨no, fi, K, m, I⟩
  · exact h
  · obtain ⟨sd, cap, h1, h2⟩ := h
    exact ⟨sd, cap, h1, h2.base hs⟩
set_option maxRecDepth 100000 in
theorem GbPost.trans {W W1 W2 : World} {bp tb cp base : Nat} {v v1 : Value} {s' : GbS} {o : Option (Nat × Nat × Nat × Nat × (Nat → Nat))} {e : Ending} (h : GbPost W1 bp tb cp base v1 s' o e W2) (k : Kb W W1 bp cp v) (hv : ∀ b, v1.ownBlock = some b → v.ownBlock = some b ∨ W.heap.size ≤ b) : GbPost W bp tb cp base v s' o e W2 := by
  obtain ⟨v', h1, h2, h3, h4⟩ := h
  refine ⟨v', h1, fun b hb => ?_, k.trans h3 hv, h4.base k.size⟩
  rcases h2 b hb with h5 | h5
  · exact hv b h5
  · exact .inr (by have := k.size; omega)
set_option maxRecDepth 100000 in
/-- a fresh box of another type is written behind it -/
theorem GbPost.box {W W2 : World} {bp tb cp base q : Nat} {v : Value} {s' : GbS} {o : Option (Nat × Nat × Nat × Nat × (Nat → Nat))} {e : Ending} {C : Array Value} (h : GbPost W bp tb cp base v s' o e W2) (hq : W2.heap[q]? = some (.cells C 48 (0, 0))) (hW : W.heap.size ≤ q) (D : Array Value) : GbPost W bp tb cp base v s' o e (W2.setRow q D) := by
  obtain ⟨v', h1, h2, h3, h4⟩ := h
  have hD : W2.grownBy (W2.setRow q D) (some q) := only_setRow (only_refl W2 _) (.inl rfl) _
  have keep : ∀ {p : Nat} {c : Array Value} {T : TypeId} {f : Nat × Nat}, W2.heap[p]? = some (.cells c T f) → T ≠ 48 → (W2.setRow q D).heap[p]? = some (.cells c T f) := fun {p c T f} hp hT => (setRow_other W2 q p D (ty_ne hp hq hT)).trans hp
  refine ⟨v', ⟨keep h1.b (by decide), h1.own.kept2 hD (.inr (fun e => h1.own_ne hq (by decide) e)), keep h1.gf (by decide), keep h1.ct (by decide)⟩, h2, h3.grown hD (fun r hr => .inr (.inr (.inr (by injection hr with hr; omega)))), ?_⟩
  rcases o with _ | ⟨no, fi, K, m, I⟩
  · exact h4
  · obtain ⟨sd, cap, e1, e2⟩ := h4
    exact ⟨sd, cap, e1, own_setG e2 hq (by decide) (by decide) D⟩
def NwPost (W : World) (tb size age : Nat) (most : Int) (e : Ending) (W' : World) : Prop :=
  ∃ bp cp, e = .returned (.tuple #[.pointer (some ⟨bp, 0, none⟩), .int .i64 0]) ∧ BAt W' bp tb cp W.heap.size ⟨⟨0, most, 0⟩, size, age, 0, 0, 0, 0, fun _ => 0⟩ (.slice none 0 0) ∧ Below W.heap.size W W' ∧ W.heap.size ≤ bp ∧ W.heap.size ≤ cp
set_option maxRecDepth 100000 in
theorem zeroGB (w : World) : (zeroValue 81).run Try.prog w = .ok (.agg #[.pointer none, .pointer none, .int .i64 0, .int .i64 0, .int .u32 0, .int .u32 0, .int .i64 0, .slice none 0 0]) w := by kernel_rfl
set_option maxRecDepth 100000 in
theorem BAt.cells {w : World} {bp tb cp base : Nat} {s : GbS} {v : Value} (h : BAt w bp tb cp base s v) (i : Nat) (u : Value) (hu : (gbA tb cp s v)[i]? = some u) : w.cell? ⟨bp, i, none⟩ = some u := (cell_of_block h.b).trans hu
set_option maxRecDepth 100000 in
/-- behind an append to what waits, which is then put in its place -/
theorem BAt.add {X w6 : World} {bp tb cp base : Nat} {s : GbS} {v v' : Value} {x : Nat} {f' : Nat → Int} (h : BAt X bp tb cp base s v) (hg : X.grownBy w6 v.ownBlock) (ho : OwnZ w6 base 39 .u16 v' (s.n + 1) f') (e : ∀ j, j < s.n + 1 → f' j = (((gbAddS s x).I j : Nat) : Int)) :
    BAt (w6.setCell ⟨bp, 7, none⟩ v') bp tb cp base (gbAddS s x) v' ∧ Kb X (w6.setCell ⟨bp, 7, none⟩ v') bp cp v ∧ w6.heap[bp]? = some (.cells (gbA tb cp s v) 81 (0, 0)) := by
  have hb6 := (hg.block bp h.lt (fun e => h.own_ne h.b (by decide) e.symm)).trans h.b
  have hs : w6.grownBy (w6.setCell ⟨bp, 7, none⟩ v') (some bp) := only_set (only_refl w6 _) 7 v'
  have hne : v'.ownBlock ≠ some bp := fun e => by
    obtain ⟨cur, fr, h1⟩ := own_type ho bp e
    exact ty_ne h1 hb6 (by decide) rfl
  have hgf : IsGf w6 tb := (hg.block tb h.gf.lt (fun e => h.own_ne h.gf (by decide) e.symm)).trans h.gf
  have hct : CtAt w6 cp s.ct := (hg.block cp h.ct.lt (fun e => h.own_ne h.ct (by decide) e.symm)).trans h.ct
  refine ⟨⟨blk_set hb6 7 v', (ho.congr (fun j hj => e j hj)).kept2 hs (.inr hne), IsGf.kept hgf hs h.ne_tb, (hs.block cp hct.lt (fun e => h.ne_cp (by injection e with e; exact e.symm))).trans hct⟩, ((Kb.refl X bp cp v).grown hg (fun q hq => .inr (.inr (.inl hq)))).grown hs (fun q hq => .inl (by injection hq with hq; exact hq.symm)), hb6⟩
set_option maxRecDepth 100000 in
theorem BAt.old {X : World} {bp tb cp base : Nat} {s : GbS} {v : Value} (h : BAt X bp tb cp base s v) :
    BAt (X.setCell ⟨bp, 6, none⟩ (.int .i64 ((s.old + 1 : Nat) : Int))) bp tb cp base (gbOldS s) v ∧ Kb X (X.setCell ⟨bp, 6, none⟩ (.int .i64 ((s.old + 1 : Nat) : Int))) bp cp v := by
  have hs : X.grownBy (X.setCell ⟨bp, 6, none⟩ (.int .i64 ((s.old + 1 : Nat) : Int))) (some bp) := only_set (only_refl X _) 6 _
  refine ⟨⟨blk_set h.b 6 _, h.own.kept2 hs (.inr (fun e => h.own_ne h.b (by decide) e)), IsGf.kept h.gf hs h.ne_tb, (hs.block cp h.ct.lt (fun e => h.ne_cp (by injection e with e; exact e.symm))).trans h.ct⟩, (Kb.refl X bp cp v).grown hs (fun q hq => .inl (by injection hq with hq; exact hq.symm))⟩
attribute [local irreducible] gexp gtbl glog rmul rinv rpow zexp mixF blk wLoad wLoadRes loadAns wStore wStoreRes storeAns Plain flF BRow MRow MAt By IsGf ivS rsF mlF RowsAt paF OwnS SlR dtF inV grD
attribute [local go_sem ↓] ld_g0 sto_g0
attribute [local go_sem] ld_g sto_g loadAns_some storeAns_some gg_size gg_plain blk_alloc_if blk_setRow_if blk_drew_at blk_drewN_at rowPut_some blk_setCell_if cellPut_some
set_option maxRecDepth 100000 in
set_option maxHeartbeats 2000000 in
theorem g_new (tb size age : Nat) (most : Int) (w : World) (hg : IsGf w tb) (s0 : 1 ≤ size) (s1 : size ≤ 16) (a0 : 1 ≤ age) (a1 : age ≤ 4096) (m0 : 0 ≤ most) (m1 : most ≤ 16) :
    Calls Try.prog 8 #[.pointer (some ⟨tb, 0, none⟩), .int .i64 (size : Nat), .int .i64 (age : Nat), .int .i64 most] w (NwPost w tb size age most) := by
  have hz := zeroGB
  have hgh := Lib.hid hg
  have hgl := hg.lt
  have knw := Lib.hid (fun y => s_new_ok most y m0 m1)
  have d0 : decide ((size : Int) < 1) = false := decide_eq_false (by omega)
  have d1 : decide ((16 : Int) < (size : Int)) = false := decide_eq_false (by omega)
  have d2 : decide (16 < size) = false := decide_eq_false (by omega)
  have d3 : decide ((age : Int) < 1) = false := decide_eq_false (by omega)
  have d4 : decide ((4096 : Int) < (age : Int)) = false := decide_eq_false (by omega)
  have d5 : decide (4096 < age) = false := decide_eq_false (by omega)
  clear hg
  go_enter Try.func8, Try.ntmps8
  go_wp2_with fail
  refine (knw.out w).mono ?_
  rintro e w2 ⟨rfl, hct, hb2⟩
  have hcth := Lib.hid hct
  have hb2h := Lib.hid hb2
  clear hct hb2
  go_wp2_with fail
  have hal := below_one w2 (.cells #[.pointer (some ⟨tb, 0, none⟩), .pointer (some ⟨w.heap.size, 0, none⟩), .int .i64 (size : Nat), .int .i64 (age : Nat), .int .u32 0, .int .u32 0, .int .i64 0, .slice none 0 0] 81)
  have hs := hb2h.out.size
  have hcl := hcth.out.lt
  go_ret2
  exact ⟨w2.heap.size, w.heap.size, rfl, ⟨last_block0 w2 _ _ rfl, OwnZ.nil _ _ _ _ _, hgh.out.below (hb2h.out.trans (hal.mono hs)) hgl, (hal.block _ hcl).trans hcth.out⟩, hb2h.out.trans (hal.mono hs), hs, Nat.le_refl _⟩
set_option maxRecDepth 100000 in
set_option maxHeartbeats 2000000 in
theorem g_new_no (tb : Nat) (size age most : Int) (w : World) (h : size < 1 ∨ 16 < size ∨ age < 1 ∨ 4096 < age ∨ most < 0 ∨ 16 < most) :
    Calls Try.prog 8 #[.pointer (some ⟨tb, 0, none⟩), .int .i64 size, .int .i64 age, .int .i64 most] w fun e w' => e = .returned (.tuple #[.pointer none, .int .i64 1]) ∧ w = w' := by
  have d : decide (size < 1) = true ∨ (decide (size < 1) = false ∧ decide (16 < size) = true) ∨ (decide (size < 1) = false ∧ decide (16 < size) = false ∧ decide (age < 1) = true) ∨ (decide (size < 1) = false ∧ decide (16 < size) = false ∧ decide (age < 1) = false ∧ decide (4096 < age) = true) ∨ (decide (size < 1) = false ∧ decide (16 < size) = false ∧ decide (age < 1) = false ∧ decide (4096 < age) = false ∧ Hid (most < 0 ∨ 16 < most)) := by
    have e : Hid (most < 0 ∨ 16 < most) ↔ (most < 0 ∨ 16 < most) := ⟨Hid.out, hide⟩
    simp only [decide_eq_true_eq, decide_eq_false_iff_not, e]
    omega
  clear h
  rcases d with e0 | ⟨e0, e1⟩ | ⟨e0, e1, e2⟩ | ⟨e0, e1, e2, e3⟩ | ⟨e0, e1, e2, e3, e4⟩
  iterate 4
    · go_enter Try.func8, Try.ntmps8
      go_wp2_with fail
      go_ret2
      exact ⟨rfl, rfl⟩
  · go_enter Try.func8, Try.ntmps8
    go_wp2_with fail
    refine (s_new_no most w e4.out).mono ?_
    rintro e w2 ⟨rfl, rfl⟩
    go_wp2_with fail
    go_ret2
    exact ⟨rfl, rfl⟩
set_option maxRecDepth 100000 in
set_option maxHeartbeats 8000000 in
theorem b_add (bp tb cp base : Nat) (s : GbS) (v : Value) (x : Nat) (loss : Int) (w : World) (hb : BAt w bp tb cp base s v) (ok : GbOk s) (hx : x < 65536) (hn : s.n < s.size) (hbase : base ≤ w.heap.size) :
    Calls Try.prog 13 #[.pointer (some ⟨bp, 0, none⟩), .int .u16 (x : Nat), .int .i64 loss] w (GbPost w bp tb cp base v (gbAdd s x loss).1 (gbAdd s x loss).2) := by
  have hz := zeroGG
  have hB0 := below_one w (.cells #[.int .u32 0, .int .u32 0, .int .i64 0, .int .i64 0, .slice none 0 0] 48)
  have b0 := last_block0 w (.cells #[.int .u32 0, .int .u32 0, .int .i64 0, .int .i64 0, .slice none 0 0] 48) _ rfl
  have hok1 := Lib.hid (ok.addS hx hn)
  have hs16 := ok.s1
  have hbh := Lib.hid hb
  obtain ⟨sv, cv, rfl⟩ := hb.own.form
  have hyes : Hid (s.n + 1 < s.size → gbAdd s x loss = (gbAddS s x, none)) := hide (fun h => by unfold gbAdd; rw [if_pos (show (gbAddS s x).n < s.size from h)])
  have hno : Hid (¬ s.n + 1 < s.size → gbAdd s x loss = (gbClo (gbAddS s x) loss, some (gbGrp (gbAddS s x) loss))) := hide (fun h => by unfold gbAdd; rw [if_neg (show ¬ (gbAddS s x).n < s.size from h)])
  have ksn : s.n ≤ 90000000 := by omega
  clear ok hb
  obtain ⟨n, hne⟩ : ∃ n, s.n = n := ⟨_, rfl⟩
  obtain ⟨Z, hZe⟩ : ∃ Z, s.size = Z := ⟨_, rfl⟩
  rw [hne] at hn ksn hyes hno hbh ⊢
  rw [hZe] at hn hs16 hyes hno
  have hneh := Lib.hid hne
  have hZh := Lib.hid hZe
  clear hne hZe
  go_enter Try.func13, Try.ntmps13
  go_upto_region 1 with (fail)
  generalize World.alloc w _ = X at *
  have hbX := Lib.hid (hbh.out.below hB0)
  have hwX : w.heap.size < X.heap.size := (Array.getElem?_eq_some_iff.1 b0).1
  have b0h := Lib.hid b0
  have hB0h := Lib.hid hB0
  have hbX2 := hbX.out.b
  have hcX : X.cell? ⟨bp, 7, none⟩ = some (.slice sv n cv) := (cell_of_block hbX2).trans rfl
  have hoX : Hid (OwnZ X base 39 .u16 (.slice sv n cv) n (fun j => (s.I j : Nat))) := hide (by have := hbX.out.own; rw [hneh.out] at this; exact this)
  clear b0 hB0 hbX2
  go_upto_region 2 with (at_builtin; refine wpList_snocZ2 Try.underlying35 infoIn (by decide) rfl (.tmp 12) (.tmp 14) rfl X _ base n (fun j => (s.I j : Nat)) (x : Nat) rfl rfl rfl hoX.out ksn (by omega) ?_; intro v' w6 ho6 hg6 hb6; obtain ⟨s6, cap6, rfl⟩ := ho6.form; have hbb := (hg6.block bp hbX.out.lt (fun e => hbX.out.own_ne hbX.out.b (by decide) e.symm)).trans hbX.out.b; have c6 : w6.cell? ⟨bp, 7, none⟩ = some (.slice sv n cv) := (cell_of_block hbb).trans rfl; have f6 := frozen_of_row w6 bp 7 _ _ hbb; have ho6h := Lib.hid ho6; have hg6h := Lib.hid hg6; have hb6h := Lib.hid hb6; have hbbh := Lib.hid hbb; clear ho6 hg6 hb6 hbb)
  clear c6 f6 hcX
  obtain ⟨hbY, hkY, _⟩ := hbX.out.add (x := x) hg6h.out (by rw [hneh.out]; exact ho6h.out) (fun j _ => by show (if j = n then (x : Int) else (s.I j : Int)) = ((if j = s.n then x else s.I j : Nat) : Int); rw [hneh.out]; split <;> rfl)
  generalize World.setCell w6 _ _ = Y at *
  have hbYh := Lib.hid hbY
  have hkYh := Lib.hid (((Kb.refl w bp cp (.slice sv n cv)).below hB0h.out).trans hkY (fun b hb => .inl hb))
  have c7 : Y.cell? ⟨bp, 7, none⟩ = some (.slice s6 (n + 1) cap6) := hbY.cells 7 _ rfl
  have c2 : Y.cell? ⟨bp, 2, none⟩ = some (.int .i64 (Z : Nat)) := hbY.cells 2 _ (by rw [← hZh.out]; rfl)
  have hbb : Hid (∀ b, (Value.slice s6 (n + 1) cap6).ownBlock = some b → (Value.slice sv n cv).ownBlock = some b ∨ w.heap.size ≤ b) := hide (fun b hb => (hb6h.out b hb).imp id (by omega))
  have hbw : w.heap.size ≠ bp := by have := hbh.out.lt; omega
  have hcw : w.heap.size ≠ cp := by have := hbh.out.ct.lt; omega
  have b0Y : Y.heap[w.heap.size]? = some (.cells #[.int .u32 0, .int .u32 0, .int .i64 0, .int .i64 0, .slice none 0 0] 48 (0, 0)) := (hkY.block w.heap.size hwX hbw hcw (fun e => hbX.out.own_ne b0h.out (by decide) e)).trans b0h.out
  have b0Yh := Lib.hid b0Y
  clear hbY hkY b0Y
  go_quiet (fail)
  clear c7 c2
  have hbD : Hid (BAt (Y.drewN nq) bp tb cp base (gbAddS s x) (.slice s6 (n + 1) cap6)) := hide (hbYh.out.below (below_drewN (Below.refl _ _) nq))
  have hkD : Hid (Kb w (Y.drewN nq) bp cp (.slice sv n cv)) := hide (hkYh.out.below (below_drewN (Below.refl _ _) nq))
  have b0D : Hid ((Y.drewN nq).heap[w.heap.size]? = some (.cells #[.int .u32 0, .int .u32 0, .int .i64 0, .int .i64 0, .slice none 0 0] 48 (0, 0))) := hide b0Yh.out
  generalize World.drewN Y nq = V at *
  have b0v := blk_of b0D.out
  by_cases hlt : n + 1 < Z
  · have e0 : (n : Int) + 1 < (Z : Int) := by omega
    have hpz : GbPost w bp tb cp base (.slice sv n cv) (gbAddS s x) none (.returned (.tuple #[.agg #[.int .u32 0, .int .u32 0, .int .i64 0, .int .i64 0, .slice none 0 0], .bool false])) V := ⟨_, hbD.out, hbb.out, hkD.out, rfl⟩
    have hpzh := Lib.hid (hpz.box b0D.out (Nat.le_refl _))
    clear hpz
    go_wp2_with fail
    refine bodyPost_ret (v := .tuple #[.agg #[.int .u32 0, .int .u32 0, .int .i64 0, .int .i64 0, .slice none 0 0], .bool false]) (results_row_tmp rfl _ _ w.heap.size 48 _ (0, 0) _ _ rfl rfl (setRow_heap _ _ _ _ _ _ b0D.out) Try.underlying48 rfl gg_info) rfl
      (by rw [hyes.out hlt]; exact hpzh.out _)
  · have e0 : decide ((n : Int) + 1 < (Z : Int)) = false := decide_eq_false (by omega)
    have kcl := Lib.hid (b_close bp tb cp base (gbAddS s x) (.slice s6 (n + 1) cap6) loss V hbD.out hok1.out (by show 1 ≤ s.n + 1; omega))
    have hnoh := Lib.hid (hno.out hlt)
    clear hyes hno
    generalize gbGrp (gbAddS s x) loss = G at *
    obtain ⟨g1, g2, g3, g4, g5⟩ := G
    clear b0v
    go_wp2_with fail
    refine kcl.out.mono ?_
    rintro e w7 hpost
    have hp := Lib.hid (hpost.trans hkD.out hbb.out)
    obtain ⟨v7, h1, h2, h3, sd, cap, rfl, hos⟩ := hpost
    have b07 : w7.heap[w.heap.size]? = some (.cells #[.int .u32 0, .int .u32 0, .int .i64 0, .int .i64 0, .slice none 0 0] 48 (0, 0)) := (h3.block w.heap.size (Array.getElem?_eq_some_iff.1 b0D.out).1 hbw hcw (fun e => hbD.out.own_ne b0D.out (by decide) e)).trans b0D.out
    have b0v := blk_of b07
    clear h1 h2 h3 hos
    go_wp2_with fail
    refine bodyPost_ret (v := .tuple #[.agg #[.int .u32 (g1 : Nat), .int .u32 (g2 : Nat), .int .i64 (g3 : Nat), .int .i64 (g4 : Nat), .slice sd (g3 + g4) cap], .bool true]) (results_row_tmp rfl _ _ w.heap.size 48 _ (0, 0) _ _ rfl rfl (setRow_heap _ _ _ _ _ _ b07) Try.underlying48 rfl gg_info) rfl
      (by rw [hnoh.out]; exact hp.out.box b07 (Nat.le_refl _) _)
end Go.Proofs.Ytipfoclmdbbjiaa

/- The builder's Tick. Conditions: the builder's block. -/
namespace Go.Proofs.Ytipfoclmdbbjiaa
open Go.RowKit
attribute [local irreducible] gexp gtbl glog rmul rinv rpow zexp mixF blk wLoad wLoadRes loadAns wStore wStoreRes storeAns Plain flF BRow MRow MAt By IsGf ivS rsF mlF RowsAt paF OwnS SlR dtF inV grD
attribute [local go_sem ↓] ld_g0 sto_g0
attribute [local go_sem] ld_g sto_g loadAns_some storeAns_some gg_size gg_plain blk_alloc_if blk_setRow_if blk_drew_at blk_drewN_at rowPut_some blk_setCell_if cellPut_some
set_option maxRecDepth 100000 in
set_option maxHeartbeats 8000000 in
theorem b_tick (bp tb cp base : Nat) (s : GbS) (v : Value) (loss : Int) (w : World) (hb : BAt w bp tb cp base s v) (ok : GbOk s) (hol : s.old < s.age) :
    Calls Try.prog 12 #[.pointer (some ⟨bp, 0, none⟩), .int .i64 loss] w (GbPost w bp tb cp base v (gbTick s loss).1 (gbTick s loss).2) := by
  have hz := zeroGG
  have hB0 := below_one w (.cells #[.int .u32 0, .int .u32 0, .int .i64 0, .int .i64 0, .slice none 0 0] 48)
  have b0 := last_block0 w (.cells #[.int .u32 0, .int .u32 0, .int .i64 0, .int .i64 0, .slice none 0 0] 48) _ rfl
  have hok1 := Lib.hid (ok.oldS hol)
  have ha16 := ok.a1
  have ho16 := ok.o1
  have hn16 := ok.n
  have hbh := Lib.hid hb
  obtain ⟨sv, cv, rfl⟩ := hb.own.form
  have hnil : Hid (s.n = 0 → gbTick s loss = (s, none)) := hide (fun h => by unfold gbTick; rw [if_pos h])
  have hyes : Hid (s.n ≠ 0 → s.old + 1 < s.age → gbTick s loss = (gbOldS s, none)) := hide (fun h0 h => by unfold gbTick; rw [if_neg h0, if_pos h])
  have hno : Hid (s.n ≠ 0 → ¬ s.old + 1 < s.age → gbTick s loss = (gbClo (gbOldS s) loss, some (gbGrp (gbOldS s) loss))) := hide (fun h0 h => by unfold gbTick; rw [if_neg h0, if_neg h])
  clear ok hb
  have hown := Lib.hid hbh.out.own
  obtain ⟨n, hne⟩ : ∃ n, s.n = n := ⟨_, rfl⟩
  obtain ⟨O, hOe⟩ : ∃ O, s.old = O := ⟨_, rfl⟩
  obtain ⟨Z, hZe⟩ : ∃ Z, s.age = Z := ⟨_, rfl⟩
  rw [hne] at hn16 hnil hyes hno hbh hown ⊢
  rw [hZe] at hol ha16 hyes hno
  rw [hOe] at hol ho16 hyes hno
  have hneh := Lib.hid hne
  have hZh := Lib.hid hZe
  have hOh := Lib.hid hOe
  clear hne hZe hOe
  go_enter Try.func12, Try.ntmps12
  go_upto_region 1 with (fail)
  generalize World.alloc w _ = X at *
  have hbX := Lib.hid (hbh.out.below hB0)
  have hwX : w.heap.size < X.heap.size := (Array.getElem?_eq_some_iff.1 b0).1
  have b0h := Lib.hid b0
  have hB0h := Lib.hid hB0
  have c7X : X.cell? ⟨bp, 7, none⟩ = some (.slice sv n cv) := hbX.out.cells 7 _ rfl
  clear b0 hB0
  by_cases hn0 : n = 0
  · subst hn0
    have hpz : GbPost w bp tb cp base (.slice sv 0 cv) s none (.returned (.tuple #[.agg #[.int .u32 0, .int .u32 0, .int .i64 0, .int .i64 0, .slice none 0 0], .bool false])) X := ⟨_, hbX.out, fun b hb => .inl hb, (Kb.refl w bp cp _).below hB0h.out, rfl⟩
    have hpzh := Lib.hid (hpz.box b0h.out (Nat.le_refl _))
    have b0v := blk_of b0h.out
    clear hpz
    go_wp2_with fail
    refine bodyPost_ret (v := .tuple #[.agg #[.int .u32 0, .int .u32 0, .int .i64 0, .int .i64 0, .slice none 0 0], .bool false]) (results_row_tmp rfl _ _ w.heap.size 48 _ (0, 0) _ _ rfl rfl (setRow_heap _ _ _ _ _ _ b0h.out) Try.underlying48 rfl gg_info) rfl
      (by rw [hnil.out (by trivial)]; exact hpzh.out _)
  have en : ((n : Int) == 0) = false := by simp; omega
  have c6X : X.cell? ⟨bp, 6, none⟩ = some (.int .i64 (O : Nat)) := hbX.out.cells 6 _ (by rw [← hOh.out]; rfl)
  have f6X := frozen_of_row X bp 6 _ _ hbX.out.b
  obtain ⟨hbY0, hkY0⟩ := hbX.out.old
  rw [hOh.out] at hbY0 hkY0
  have hbY0h := Lib.hid hbY0
  have hkY0h := Lib.hid hkY0
  have hOi := Lib.hid (show (O : Int) + 1 = ((O + 1 : Nat) : Int) by omega)
  clear hbY0 hkY0
  go_upto_region 4 with (fail)
  rw [hOi.out]
  clear c7X c6X f6X
  have hbY := hbY0h.out
  have hkY := hkY0h.out
  generalize World.setCell X _ _ = Y at *
  have hbYh := Lib.hid hbY
  have hkYh := Lib.hid (((Kb.refl w bp cp (.slice sv n cv)).below hB0h.out).trans hkY (fun b hb => .inl hb))
  have c6 : Y.cell? ⟨bp, 6, none⟩ = some (.int .i64 ((O + 1 : Nat) : Int)) := hbY.cells 6 _ (by rw [← hOh.out]; rfl)
  have c3 : Y.cell? ⟨bp, 3, none⟩ = some (.int .i64 (Z : Nat)) := hbY.cells 3 _ (by rw [← hZh.out]; rfl)
  have hbb : Hid (∀ b, (Value.slice sv n cv).ownBlock = some b → (Value.slice sv n cv).ownBlock = some b ∨ w.heap.size ≤ b) := hide (fun b hb => .inl hb)
  have hbw : w.heap.size ≠ bp := by have := hbh.out.lt; omega
  have hcw : w.heap.size ≠ cp := by have := hbh.out.ct.lt; omega
  have b0Y : Y.heap[w.heap.size]? = some (.cells #[.int .u32 0, .int .u32 0, .int .i64 0, .int .i64 0, .slice none 0 0] 48 (0, 0)) := (hkY.block w.heap.size hwX hbw hcw (fun e => hbX.out.own_ne b0h.out (by decide) e)).trans b0h.out
  have b0Yh := Lib.hid b0Y
  clear hbY hkY b0Y
  go_quiet (fail)
  clear c6 c3
  have hbD : Hid (BAt (Y.drewN nq) bp tb cp base (gbOldS s) (.slice sv n cv)) := hide (hbYh.out.below (below_drewN (Below.refl _ _) nq))
  have hkD : Hid (Kb w (Y.drewN nq) bp cp (.slice sv n cv)) := hide (hkYh.out.below (below_drewN (Below.refl _ _) nq))
  have b0D : Hid ((Y.drewN nq).heap[w.heap.size]? = some (.cells #[.int .u32 0, .int .u32 0, .int .i64 0, .int .i64 0, .slice none 0 0] 48 (0, 0))) := hide b0Yh.out
  generalize World.drewN Y nq = V at *
  have b0v := blk_of b0D.out
  by_cases hlt : O + 1 < Z
  · have e0 : ((O + 1 : Nat) : Int) < (Z : Int) := by omega
    have hpz : GbPost w bp tb cp base (.slice sv n cv) (gbOldS s) none (.returned (.tuple #[.agg #[.int .u32 0, .int .u32 0, .int .i64 0, .int .i64 0, .slice none 0 0], .bool false])) V := ⟨_, hbD.out, hbb.out, hkD.out, rfl⟩
    have hpzh := Lib.hid (hpz.box b0D.out (Nat.le_refl _))
    clear hpz
    go_wp2_with fail
    refine bodyPost_ret (v := .tuple #[.agg #[.int .u32 0, .int .u32 0, .int .i64 0, .int .i64 0, .slice none 0 0], .bool false]) (results_row_tmp rfl _ _ w.heap.size 48 _ (0, 0) _ _ rfl rfl (setRow_heap _ _ _ _ _ _ b0D.out) Try.underlying48 rfl gg_info) rfl
      (by rw [hyes.out hn0 hlt]; exact hpzh.out _)
  · have e0 : decide (((O + 1 : Nat) : Int) < (Z : Int)) = false := decide_eq_false (by omega)
    have e0b : decide ((O : Int) + 1 < (Z : Int)) = false := decide_eq_false (by omega)
    have kcl := Lib.hid (b_close bp tb cp base (gbOldS s) (.slice sv n cv) loss V hbD.out hok1.out (by show 1 ≤ s.n; have := hneh.out; omega))
    have hnoh := Lib.hid (hno.out hn0 hlt)
    clear hyes hno
    generalize gbGrp (gbOldS s) loss = G at *
    obtain ⟨g1, g2, g3, g4, g5⟩ := G
    clear b0v
    go_wp2_with fail
    refine kcl.out.mono ?_
    rintro e w7 hpost
    have hp := Lib.hid (hpost.trans hkD.out hbb.out)
    obtain ⟨v7, h1, h2, h3, sd, cap, rfl, hos⟩ := hpost
    have b07 : w7.heap[w.heap.size]? = some (.cells #[.int .u32 0, .int .u32 0, .int .i64 0, .int .i64 0, .slice none 0 0] 48 (0, 0)) := (h3.block w.heap.size (Array.getElem?_eq_some_iff.1 b0D.out).1 hbw hcw (fun e => hbD.out.own_ne b0D.out (by decide) e)).trans b0D.out
    have b0v := blk_of b07
    clear h1 h2 h3 hos
    go_wp2_with fail
    refine bodyPost_ret (v := .tuple #[.agg #[.int .u32 (g1 : Nat), .int .u32 (g2 : Nat), .int .i64 (g3 : Nat), .int .i64 (g4 : Nat), .slice sd (g3 + g4) cap], .bool true]) (results_row_tmp rfl _ _ w.heap.size 48 _ (0, 0) _ _ rfl rfl (setRow_heap _ _ _ _ _ _ b07) Try.underlying48 rfl gg_info) rfl
      (by rw [hnoh.out]; exact hp.out.box b07 (Nat.le_refl _) _)
end Go.Proofs.Ytipfoclmdbbjiaa

/- The law's awake. No condition. -/
namespace Go.Proofs.Ytipfoclmdbbjiaa
open Go.RowKit
def gb0 : GbS := ⟨⟨0, 0, 0⟩, 2, 9, 0, 0, 0, 0, fun _ => 0⟩
def gb1 : GbS := gbAddS gb0 5
def gb2 : GbS := gbAddS gb1 6
set_option maxRecDepth 100000 in
theorem gb0_ok : GbOk gb0 := ⟨⟨by decide, by decide, by decide, by decide, by decide, by decide⟩, by decide, by decide, by decide, by decide, by decide, by decide, by decide, by decide, fun _ => by show 0 < 65536; decide⟩
set_option maxRecDepth 100000 in
theorem gb0_lt : gb0.n < gb0.size := by decide
set_option maxRecDepth 100000 in
theorem gb1_ok : GbOk gb1 := gb0_ok.addS (by decide) (by decide)
set_option maxRecDepth 100000 in
theorem gb1_lt : gb1.n < gb1.size := by decide
set_option maxRecDepth 100000 in
theorem gb0_add : gbAdd gb0 5 0 = (gb1, none) := by unfold gbAdd; rw [if_pos (by decide)]; rfl
set_option maxRecDepth 100000 in
theorem gb1_add : gbAdd gb1 6 0 = (gbClo gb2 0, some (0, 0, 2, 0, gb2.I)) := by
  unfold gbAdd
  rw [if_neg (by decide)]
  have h := tgZ_bd 2 0 0
  have h2 : tgZ 2 0 0 = 0 := by have := h.1; have := h.2; simp at this; omega
  have h3 : (gbClo gb2 0).ct.now.toNat = 0 := by
    show (ctNext ⟨0, 0, 0⟩ (tgZ 2 0 0)).now.toNat = 0
    rw [h2]
    rfl
  show (gbClo gb2 0, some (gbGrp gb2 0)) = _
  unfold gbGrp
  rw [h3]
  rfl
attribute [local irreducible] gexp gtbl glog rmul rinv rpow zexp mixF blk wLoad wLoadRes loadAns wStore wStoreRes storeAns Plain flF BRow MRow MAt By IsGf ivS rsF mlF RowsAt paF OwnS SlR dtF inV grD gb0 gb1 gb2 gbClo
attribute [local go_sem ↓] ld_g0 sto_g0
attribute [local go_sem] ld_g sto_g loadAns_some storeAns_some gg_size gg_plain blk_alloc_if blk_setRow_if blk_drew_at blk_drewN_at rowPut_some blk_setCell_if cellPut_some
set_option maxRecDepth 100000 in
set_option maxHeartbeats 4000000 in
theorem g_awake (w : World) : Calls Try.prog 7 #[] w (Ret w (.bool true)) := by
  have hz := zeroGG
  have kad := Lib.hid (fun bp tb cp base y v (h : BAt y bp tb cp base gb0 v) (hb : base ≤ y.heap.size) => gb0_add ▸ b_add bp tb cp base gb0 v 5 0 y h gb0_ok (by decide) gb0_lt hb)
  have kad2 := Lib.hid (fun bp tb cp base y v (h : BAt y bp tb cp base gb1 v) (hb : base ≤ y.heap.size) => gb1_add ▸ b_add bp tb cp base gb1 v 6 0 y h gb1_ok (by decide) gb1_lt hb)
  go_enter Try.func7, Try.ntmps7
  go_wp2_with fail
  refine (gf_new_below w).mono ?_
  rintro e w1 ⟨rfl, hg, hb1⟩
  have hgh := Lib.hid hg
  have hb1h := Lib.hid hb1
  generalize htb : w.heap.size = tb at *
  have htbh := Lib.hid htb
  have htb1 : tb ≤ w.heap.size := by omega
  have htb2 : w.heap.size ≤ tb := by omega
  clear hg hb1 htb
  go_wp2_with fail
  refine (g_new tb 2 9 0 w1 hgh.out (by decide) (by decide) (by decide) (by decide) (by decide) (by decide)).mono ?_
  rintro e w2 ⟨bp, cp, rfl, hb, hB2, hbp, hcp⟩
  have hbh : Hid (BAt w2 bp tb cp w1.heap.size gb0 (.slice none 0 0)) := hide (by unfold gb0; exact hb)
  have hs1 := hb1h.out.size
  have hs2 := hB2.size
  have hB2h := Lib.hid (hb1h.out.trans (hB2.mono (by omega)))
  clear hb hB2
  go_wp2_with fail
  refine (kad.out bp tb cp w1.heap.size w2 _ hbh.out hs2).mono ?_
  rintro e w3 ⟨v3, hb3, hv3, hk3, rfl⟩
  have hB3h := Lib.hid (hk3.to_below hB2h.out (by omega) (by omega) (by omega) (fun q hq => by simp [Value.ownBlock] at hq))
  have hs3 := hk3.size
  have hb3h := Lib.hid hb3
  have hv3h : Hid (∀ b, v3.ownBlock = some b → tb ≤ b) := hide (fun b hb => by
    rcases hv3 b hb with h | h
    · simp [Value.ownBlock] at h
    · omega)
  clear hb3 hv3 hk3
  go_upto_region 5 with (fail)
  obtain ⟨x0, x1, x2⟩ := boxed w3 #[.int .u32 0, .int .u32 0, .int .i64 0, .int .i64 0, .slice none 0 0] #[.int .u32 0, .int .u32 0, .int .i64 0, .int .i64 0, .slice none 0 0] 48
  generalize World.setRow (World.alloc w3 _) _ _ = X at *
  have hbX := Lib.hid (hb3h.out.below x2)
  have hBX := Lib.hid (hB3h.out.trans (x2.mono (by omega)))
  generalize w3.heap.size = q3 at *
  clear x0 x2
  go_wp2_with fail
  refine (kad2.out bp tb cp w1.heap.size X v3 hbX.out (by omega)).mono ?_
  rintro e w4 ⟨v4, hb4, hv4, hk4, sd, cap, he, hos⟩
  have he2 : e = .returned (.tuple #[.agg #[.int .u32 0, .int .u32 0, .int .i64 2, .int .i64 0, .slice sd 2 cap], .bool true]) := he
  subst he2
  have hB4h := Lib.hid (hk4.to_below hBX.out (by omega) (by omega) (by omega) hv3h.out)
  clear hb4 hv4 hk4 hos he
  go_upto_region 6 with (fail)
  obtain ⟨x0, x1, x2⟩ := boxed w4 #[.int .u32 0, .int .u32 0, .int .i64 0, .int .i64 0, .slice none 0 0] #[.int .u32 0, .int .u32 0, .int .i64 2, .int .i64 0, .slice sd 2 cap] 48
  generalize World.setRow (World.alloc w4 _) _ _ = Y at *
  have hBY := Lib.hid (hB4h.out.trans (x2.mono (show tb ≤ w4.heap.size by have := hB4h.out.size; omega)))
  have c0 := (cell_of_block x0 (i := 0)).trans rfl
  have c2 := (cell_of_block x0 (i := 2)).trans rfl
  have c4 := (cell_of_block x0 (i := 4)).trans rfl
  generalize w4.heap.size = q4 at *
  clear x0 x1 x2
  go_wp2_with fail
  go_ret
  exact ⟨rfl, by rw [htbh.out]; exact hBY.out⟩
end Go.Proofs.Ytipfoclmdbbjiaa

/- Get of package word and of the document's answer: the word of up to eight bytes. Conditions: the slice reads as the list named, of bytes. -/
namespace Go.Proofs.Ytipfoclmdbbjiaa
open Go.RowKit
/-- the word of bytes, the highest first -/
def getN (l : List Nat) : Nat := l.foldl (fun w b => w * 256 + b) 0
set_option maxRecDepth 100000 in
theorem getN_take (l : List Nat) (k x : Nat) (h : l[k]? = some x) : getN (l.take (k + 1)) = getN (l.take k) * 256 + x := by
  rw [List.take_add_one, h]; simp [getN]
set_option maxRecDepth 100000 in
theorem getN_lt (l : List Nat) (h : ∀ x ∈ l, x < 256) (k : Nat) : getN (l.take k) < 256 ^ k := by
  induction k with
  | zero => simp [getN]
  | succ k ih =>
    rcases hx : l[k]? with _ | x
    · rw [List.take_add_one, hx]
      simp only [Option.toList, List.append_nil]
      exact Nat.lt_of_lt_of_le ih (Nat.pow_le_pow_right (by decide) (by omega))
    · rw [getN_take l k x hx, Nat.pow_succ]
      have := h x (List.mem_of_getElem? hx)
      omega
set_option maxRecDepth 100000 in
theorem pow256 (k : Nat) (h : k ≤ 7) : 256 ^ k ≤ 72057594037927936 := by
  have : 256 ^ k ≤ 256 ^ 7 := Nat.pow_le_pow_right (by decide) h
  exact Nat.le_trans this (by decide)
set_option maxRecDepth 100000 in
theorem or_byte (w x : Nat) (hx : x < 256) : (w * 256) ||| x = w * 256 + x := by
  have := Nat.two_pow_add_eq_or_of_lt (i := 8) hx w
  rw [Nat.mul_comm] at this
  exact this.symm
set_option maxRecDepth 100000 in
theorem getN_nil : getN [] = 0 := rfl
set_option maxRecDepth 100000 in
theorem getStep (w x : Nat) (h1 : bits .or .u64 ((w * 256 : Nat) : Int) (x : Int) = ((w * 256 ||| x : Nat) : Int)) (h2 : (w * 256) ||| x = w * 256 + x) : bits .or .u64 ((w : Int) * 256) (x : Int) = ((w * 256 + x : Nat) : Int) := by
  rw [← h2, ← h1]; simp
set_option maxRecDepth 100000 in
theorem getStep2 (w x : Nat) : (w : Int) * 256 + x = ((w * 256 + x : Nat) : Int) := by simp
attribute [local irreducible] getN
set_option maxRecDepth 100000 in
set_option maxHeartbeats 400000 in
theorem w_get (s : Option Addr) (cap : Nat) (l : List Nat) (w : World) (hs : SlN .u8 w s l) (hl : ∀ x ∈ l, x < 256) (hn : l.length ≤ cap) (hc : cap ≤ 9223372036854775807) :
    Calls Try.prog 31 #[.slice s l.length cap] w fun e w' => e = .returned (.int .u64 (getN (l.take 8) : Nat)) ∧ w = w' := by
  have hsh := hide hs
  have hlh := hide hl
  clear hs hl
  by_cases h8 : l.length ≤ 8
  · have ht := hide (List.take_of_length_le h8)
    go_enter Try.func31, Try.ntmps31
    go_wp2_with fail
    go_loop [3, 12] (fun v i => ∃ k : Nat, k ≤ l.length ∧ i = .int .i64 k ∧ v = .int .u64 (getN (l.take k) : Nat)) (fun _ i => l.length - (intOf i).toNat)
    case atStart => exact ⟨0, by omega, rfl, by rw [List.take_zero, getN_nil]; rfl⟩
    case round =>
      obtain ⟨k, hk, rfl, rfl⟩ := hrel
      by_cases hlt : k < l.length
      · obtain ⟨x, hx⟩ : ∃ x, l[k]? = some x := ⟨_, List.getElem?_eq_getElem (by omega)⟩
        obtain ⟨b, off, rfl, hc⟩ := hsh.out k x hx
        have hx2 := hlh.out x (List.mem_of_getElem? hx)
        have hx1 := Nat.lt_of_lt_of_le (getN_lt l hlh.out k) (pow256 k (by omega))
        have he := hide (getN_take l k x hx)
        have ho := hide (or_byte (getN (l.take k)) x hx2)
        have hu := hide (u64_or_nat (getN (l.take k) * 256) x (by omega) (by omega))
        clear hx hsh hlh
        go_wp2_with fail
        rw [getStep _ _ hu.out ho.out, ← he.out]
        go_round
        case rel => exact ⟨k + 1, by omega, by go_num, rfl⟩
        case measure => simp [intOf]; omega
      · obtain rfl : k = l.length := by omega
        go_wp2_with fail
        go_ret
        exact ⟨ret_int (by rw [ht.out]), rfl⟩
  · have h8' : 8 < l.length := by omega
    go_enter Try.func31, Try.ntmps31
    go_wp2_with fail
    go_loop [3, 12] (fun v i => ∃ k : Nat, k ≤ 8 ∧ i = .int .i64 k ∧ v = .int .u64 (getN (l.take k) : Nat)) (fun _ i => 8 - (intOf i).toNat)
    case atStart => exact ⟨0, by omega, rfl, by rw [List.take_zero, getN_nil]; rfl⟩
    case round =>
      obtain ⟨k, hk, rfl, rfl⟩ := hrel
      by_cases hlt : k < 8
      · obtain ⟨x, hx⟩ : ∃ x, l[k]? = some x := ⟨_, List.getElem?_eq_getElem (by omega)⟩
        obtain ⟨b, off, rfl, hc⟩ := hsh.out k x hx
        have hx2 := hlh.out x (List.mem_of_getElem? hx)
        have hx1 := Nat.lt_of_lt_of_le (getN_lt l hlh.out k) (pow256 k (by omega))
        have he := hide (getN_take l k x hx)
        have ho := hide (or_byte (getN (l.take k)) x hx2)
        have hu := hide (u64_or_nat (getN (l.take k) * 256) x (by omega) (by omega))
        clear hx hsh hlh
        go_wp2_with fail
        rw [getStep _ _ hu.out ho.out, ← he.out]
        go_round
        case rel => exact ⟨k + 1, by omega, by go_num, rfl⟩
        case measure => simp [intOf]; omega
      · obtain rfl : k = 8 := by omega
        go_wp2_with fail
        go_ret
        exact ⟨rfl, rfl⟩

set_option maxRecDepth 100000 in
set_option maxHeartbeats 400000 in
theorem r_get (s : Option Addr) (cap : Nat) (l : List Nat) (w : World) (hs : SlN .u8 w s l) (hl : ∀ x ∈ l, x < 256) (hn : l.length ≤ cap) (hc : cap ≤ 9223372036854775807) :
    Calls Try.prog 20 #[.slice s l.length cap] w fun e w' => e = .returned (.int .u64 (getN (l.take 8) : Nat)) ∧ w = w' := by
  have hsh := hide hs
  have hlh := hide hl
  clear hs hl
  go_enter Try.func20, Try.ntmps20
  go_wp2_with fail
  go_loop [3, 4] (fun v i => ∃ k : Nat, k ≤ l.length ∧ k ≤ 8 ∧ i = .int .i64 k ∧ v = .int .u64 (getN (l.take k) : Nat)) (fun _ i => 8 - (intOf i).toNat)
  case atStart => exact ⟨0, by omega, by omega, rfl, by rw [List.take_zero, getN_nil]; rfl⟩
  case round =>
    obtain ⟨k, hk, hk8, rfl, rfl⟩ := hrel
    by_cases hlt : k < l.length
    · by_cases hl8 : k < 8
      · obtain ⟨x, hx⟩ : ∃ x, l[k]? = some x := ⟨_, List.getElem?_eq_getElem (by omega)⟩
        obtain ⟨b, off, rfl, hc⟩ := hsh.out k x hx
        have hx2 := hlh.out x (List.mem_of_getElem? hx)
        have hx1 := Nat.lt_of_lt_of_le (getN_lt l hlh.out k) (pow256 k (by omega))
        have he := hide (getN_take l k x hx)
        clear hx hsh hlh
        go_wp2_with fail
        rw [getStep2, ← he.out]
        go_round
        case rel => exact ⟨k + 1, by omega, by omega, by go_num, rfl⟩
        case measure => simp [intOf]; omega
      · obtain rfl : k = 8 := by omega
        go_wp2_with fail
        go_ret
        exact ⟨rfl, rfl⟩
    · obtain rfl : k = l.length := by omega
      have ht := hide (List.take_of_length_le hk8)
      go_wp2_with fail
      go_ret
      exact ⟨ret_int (by rw [ht.out]), rfl⟩
end Go.Proofs.Ytipfoclmdbbjiaa
