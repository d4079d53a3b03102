import Derived.Test.YtipfoclmdbbjiaaGrMb
import Derived.Test.YtipfoclmdbbjiaaU28
import Derived.Test.YtipfoclmdbbjiaaU16
import Derived.Test.YtipfoclmdbbjiaaFnNil
import Derived.Test.YtipfoclmdbbjiaaAgg
import Derived.Deep.QuietTactic
import Derived.Deep.DeepCutAuto
/- GroupMakes: the walk of the law. -/
namespace Go.Proofs.Ytipfoclmdbbjiaa
open Go.RowKit Go.Shelf
attribute [local irreducible] gexp gtbl glog rmul rinv rpow zexp mixF blk wLoad wLoadRes loadAns wStore wStoreRes storeAns Plain flF BRow MRow MAt By IsGf ivS rsF mlF RowsAt paF OwnS SlR dtF inV grD dgK
attribute [local go_sem] Oper.semAt_some
attribute [local go_sem ↓] ld_d0 sto_d0 ld_g0 sto_g0 ld_w0 sto_w0
attribute [local go_sem] ld_d sto_d ld_g sto_g ld_w sto_w loadAns_some storeAns_some gg_size gg_plain dg_size dg_plain blk_alloc_if blk_setRow_if blk_drew_at blk_drewN_at rowPut_some blk_setCell_if cellPut_some
set_option maxRecDepth 100000 in
theorem int_neb (x : Int) : (x != x) = false := by simp
set_option maxRecDepth 100000 in
theorem u16_nat17 {a : Int} (h : (Lit.int .u16 a).wf = true) : ∃ n : Nat, a = n ∧ n < 65536 := by
  have hx : 0 ≤ a ∧ a ≤ 65535 := by simpa [Lit.wf, IntKind.min, IntKind.max, IntKind.signed, IntKind.bits] using h
  exact ⟨a.toNat, by omega, by omega⟩
set_option maxRecDepth 100000 in
theorem row16_open {w : World} {a : Option Addr} {len cap : Nat} {zs : List Int} (h : IsRow .u16 w a len cap zs) : ∃ L : Nat → Nat, ZAt w .u16 a len (fun i => (L i : Nat)) ∧ ∀ i, L i < 65536 := by
  obtain ⟨l, hl, h1, h2, hb, hs⟩ := isRow_nat h 65536 (fun n h => by obtain ⟨m, rfl, hm⟩ := u16_nat17 h; omega)
  refine ⟨fun i => l.getD i 0, fun i hi => ?_, fun i => ?_⟩
  · have hi2 : i < l.length := by omega
    obtain ⟨b, off, hsb, hc⟩ := hs i (l.getD i 0) (by rw [List.getD_eq_getElem?_getD, List.getElem?_eq_getElem hi2]; rfl)
    exact ⟨b, off, hsb, hc⟩
  · show l.getD i 0 < 65536
    by_cases hi : i < l.length
    · rw [List.getD_eq_getElem?_getD, List.getElem?_eq_getElem hi]; exact hb _ (List.getElem_mem _)
    · rw [List.getD_eq_getElem?_getD, List.getElem?_eq_none (by omega)]; exact (by decide : 0 < 65536)
set_option maxRecDepth 100000 in
set_option maxHeartbeats 16000000 in
theorem groupMakes_walk (v0 : Value) (a1 : Int) (a2 : Option Addr) (len2 cap2 : Nat) (z2 : List Int) (w : World) (w0 : IsAgg [some .u32, some .u32] v0) (w1 : (Lit.int .i64 a1).wf = true) (w2 : IsRow .u16 w a2 len2 cap2 z2) :
    Calls Try.prog 5 #[v0, .int .i64 a1, .slice a2 len2 cap2] w fun e w' => e = .returned (.bool true) ∧ Below w.heap.size w w' := by
  obtain ⟨x, y0, rfl, _, _⟩ := agg2 w0
  obtain ⟨I, hzI, hI⟩ := row16_open w2
  obtain ⟨no, fi, K, m, L, D, err, ok, hgm, hrm, hres⟩ := mk_both x y0 a1 len2 I a2 cap2 hI
  have hz := zeroGG
  have hz2 := zeroGW
  have hz3 := zeroDG
  have hzh := Lib.hid hzI
  have hgmh := Lib.hid hgm
  have hrmh := Lib.hid hrm
  have hresh := Lib.hid hres
  obtain ⟨b0, b1, hsz, hB0⟩ := two_allocs w (.cells #[.int .u32 x, .int .u32 y0] 62) (.cells #[.bool false] 4)
  have hfn := fun (W : World) (fn : Fn) (fi ca : Array Value) => run_eql_func_nil (P := Try.prog) W 68 fn fi ca Try.underlying68
  have hfnh := Lib.hid hfn
  clear w0 w1 w2 hzI hI hgm hrm hres hfn
  refine (callsIn_wide (n := 3)).1 ?_
  refine callsIn_of_wp_marks Try.func5 rfl trivial ?_ rfl
  simp only [Try.ntmps5, List.size_toArray, List.length_cons, List.length_nil, Nat.reduceAdd, Nat.reduceSub, Array.replicate_succ, Array.replicate_zero, List.push_toArray, List.append_toArray, List.nil_append, List.cons_append]
  refine wpIn_wide.2 ?_
  go_upto_region 1 with (fail)
  generalize World.alloc (World.alloc w _) _ = X0 at *
  have b0h := Lib.hid b0
  have b1h := Lib.hid b1
  have hB0h := Lib.hid hB0
  clear b0 b1 hB0
  go_wp2_with fail
  refine (g_awake X0).mono ?_
  rintro e X ⟨rfl, hb1⟩
  have hsX := hb1.size
  have hBX := Lib.hid (hB0h.out.trans (hb1.mono (by omega)))
  have k0 := Lib.hid ((hb1.block _ (by omega)).trans b0h.out)
  have k1 := Lib.hid ((hb1.block _ (by omega)).trans b1h.out)
  have hzX := Lib.hid (hzh.out.below hBX.out)
  have hS : Hid (∀ y, Below X.heap.size X y → (fun y : World => y.cell? ⟨w.heap.size, 0, none⟩ = some (.int .u32 x) ∧ y.cell? ⟨w.heap.size, 1, none⟩ = some (.int .u32 y0)) y) := hide (fun y hy => ⟨(cell_of_block ((hy.block _ (by omega)).trans k0.out)).trans rfl, (cell_of_block ((hy.block _ (by omega)).trans k0.out)).trans rfl⟩)
  clear hb1 b0h b1h hB0h hzh
  go_upto_region 3 with (fail)
  go_cut [7, 8] from 23 to 33 (fun v7 v8 wx => ∃ (q : Nat) (s1 : Option Addr) (c1 : Nat), v7 = .pointer (some ⟨q, 0, none⟩) ∧ v8 = .int .i64 err ∧ Hid (wx.heap[q]? = some (.cells #[.int .u32 no, .int .u32 fi, .int .i64 K, .int .i64 m, .slice s1 L c1] 48 (0, 0))) ∧ Hid (OwnS wx X.heap.size (.slice s1 L c1) L 2 D) ∧ Hid (Below X.heap.size X wx) ∧ X.heap.size ≤ q)
  case first =>
    have hBd : Hid (Below X.heap.size X X.drew) := hide (below_drewN (Below.refl _ _) 1)
    have hHeld := hS.out _ hBd.out
    refine h_begin 14 (fun y : World => y.cell? ⟨w.heap.size, 0, none⟩ = some (.int .u32 x) ∧ y.cell? ⟨w.heap.size, 1, none⟩ = some (.int .u32 y0)) rfl (by kernel_rfl) hHeld ?_
    first
      | (refine h_run (i := 1) (v := ?_) hHeld rfl (by kernel_rfl) (by kernel_rfl) (by kernel_rfl) ?_ ?_ ?_
         rotate_left
         · rfl
         · (intro x hSx; (try dsimp only at hSx); go_simp <;> with_reducible rfl)
         simp only [Act.put, List.setIfInBounds_toArray, List.set_cons_zero, List.set_cons_succ])
      | (refine h_skip (i := 1) hHeld rfl (by kernel_rfl) (by kernel_rfl) (by kernel_rfl) ?_ ?_
         · rfl
         simp only [Act.put, List.setIfInBounds_toArray, List.set_cons_zero, List.set_cons_succ])
    first
      | (refine h_run (i := 2) (v := ?_) hHeld rfl (by kernel_rfl) (by kernel_rfl) (by kernel_rfl) ?_ ?_ ?_
         rotate_left
         · rfl
         · (intro x hSx; (try dsimp only at hSx); go_simp <;> with_reducible rfl)
         simp only [Act.put, List.setIfInBounds_toArray, List.set_cons_zero, List.set_cons_succ])
      | (refine h_skip (i := 2) hHeld rfl (by kernel_rfl) (by kernel_rfl) (by kernel_rfl) ?_ ?_
         · rfl
         simp only [Act.put, List.setIfInBounds_toArray, List.set_cons_zero, List.set_cons_succ])
    first
      | (refine h_run (i := 3) (v := ?_) hHeld rfl (by kernel_rfl) (by kernel_rfl) (by kernel_rfl) ?_ ?_ ?_
         rotate_left
         · rfl
         · (intro x hSx; (try dsimp only at hSx); go_simp <;> with_reducible rfl)
         simp only [Act.put, List.setIfInBounds_toArray, List.set_cons_zero, List.set_cons_succ])
      | (refine h_skip (i := 3) hHeld rfl (by kernel_rfl) (by kernel_rfl) (by kernel_rfl) ?_ ?_
         · rfl
         simp only [Act.put, List.setIfInBounds_toArray, List.set_cons_zero, List.set_cons_succ])
    first
      | (refine h_run (i := 4) (v := ?_) hHeld rfl (by kernel_rfl) (by kernel_rfl) (by kernel_rfl) ?_ ?_ ?_
         rotate_left
         · rfl
         · (intro x hSx; (try dsimp only at hSx); go_simp <;> with_reducible rfl)
         simp only [Act.put, List.setIfInBounds_toArray, List.set_cons_zero, List.set_cons_succ])
      | (refine h_skip (i := 4) hHeld rfl (by kernel_rfl) (by kernel_rfl) (by kernel_rfl) ?_ ?_
         · rfl
         simp only [Act.put, List.setIfInBounds_toArray, List.set_cons_zero, List.set_cons_succ])
    first
      | (refine h_run (i := 5) (v := ?_) hHeld rfl (by kernel_rfl) (by kernel_rfl) (by kernel_rfl) ?_ ?_ ?_
         rotate_left
         · rfl
         · (intro x hSx; (try dsimp only at hSx); go_simp <;> with_reducible rfl)
         simp only [Act.put, List.setIfInBounds_toArray, List.set_cons_zero, List.set_cons_succ])
      | (refine h_skip (i := 5) hHeld rfl (by kernel_rfl) (by kernel_rfl) (by kernel_rfl) ?_ ?_
         · rfl
         simp only [Act.put, List.setIfInBounds_toArray, List.set_cons_zero, List.set_cons_succ])
    first
      | (refine h_run (i := 6) (v := ?_) hHeld rfl (by kernel_rfl) (by kernel_rfl) (by kernel_rfl) ?_ ?_ ?_
         rotate_left
         · rfl
         · (intro x hSx; (try dsimp only at hSx); go_simp <;> with_reducible rfl)
         simp only [Act.put, List.setIfInBounds_toArray, List.set_cons_zero, List.set_cons_succ])
      | (refine h_skip (i := 6) hHeld rfl (by kernel_rfl) (by kernel_rfl) (by kernel_rfl) ?_ ?_
         · rfl
         simp only [Act.put, List.setIfInBounds_toArray, List.set_cons_zero, List.set_cons_succ])
    clear hHeld
    refine h_alloc2 (i := 11) (j := 0) (k := 7) (fj := 9) (fk := 21) (aj := #[]) (fun u => #[u, .int .u32 x, .int .u32 y0, .int .i64 a1, .slice a2 len2 cap2]) (.cells #[.int .u32 0, .int .u32 0, .int .i64 0, .int .i64 0, .slice none 0 0] 48) X.heap.size (fun y => Below X.heap.size X y) (fun y => Below X.heap.size X y)
      (fun u y => ∃ p, u = .pointer (some ⟨p, 0, none⟩) ∧ IsGf y p) (fun u y => ∃ s1 c1, u = .tuple #[.agg #[.int .u32 no, .int .u32 fi, .int .i64 K, .int .i64 m, .slice s1 L c1], .int .i64 err] ∧ OwnS y X.heap.size (.slice s1 L c1) L 2 D) [0, 11] [7, 11]
      hBd.out (fun y hy => hS.out y hy) (fun y hy => hy.size) (fun y hy => hy.alloc hy.size _) (fun y hy => hS.out y hy) (fun y hy => hy.size) (fun y hy => hy.alloc hy.size _) (fun u y hy hu => ?_) (fun u y hy hu => ?_) (fun y hy => ?_) (fun y u hy hu => ?_) rfl rfl rfl (by kernel_rfl) (by decide) (by kernel_rfl) (by kernel_rfl) (by kernel_rfl) (by decide) (by kernel_rfl) (fun _ => rfl) (fun _ => rfl) (fun _ => rfl) (fun b y => ?_) (fun y => ?_) (fun y p => ?_) (fun y v => ?_) (fun y v p => ?_) (fun y v p => ?_) rfl (fun _ _ _ => rfl) ?_ ?_
    · obtain ⟨p, h1, h2⟩ := hu
      exact ⟨p, h1, h2.below (below_one y _) h2.lt⟩
    · obtain ⟨s1, c1, h1, h2⟩ := hu
      exact ⟨s1, c1, h1, h2.below (below_one y _)⟩
    · refine (gf_new_below y).mono ?_
      rintro e y1 ⟨rfl, h1, h2⟩
      exact ⟨_, rfl, hy.trans (h2.mono hy.size), ⟨_, rfl, h1⟩, fun q _ hq => h2.block q hq⟩
    · obtain ⟨p, rfl, hp⟩ := hu
      refine (hgmh.out y p hp (hzX.out.below hy)).mono ?_
      rintro e y1 ⟨s1, c1, rfl, h1, h2⟩
      exact ⟨_, rfl, hy.trans (h2.mono hy.size), ⟨s1, c1, rfl, h1.base hy.size⟩, fun q _ hq => h2.block q hq⟩
    · go_simp <;> with_reducible rfl
    · go_simp <;> with_reducible rfl
    · go_simp <;> with_reducible rfl
    · go_simp <;> with_reducible rfl
    · go_simp <;> with_reducible rfl
    · go_simp <;> with_reducible rfl
    · intro y q v u hy hu hq hBq
      obtain ⟨s1, c1, rfl, hos⟩ := hu
      simp only [Act.put, List.setIfInBounds_toArray, List.set_cons_zero, List.set_cons_succ]
      have hHeld : (fun y : World => y.cell? ⟨w.heap.size, 0, none⟩ = some (.int .u32 x) ∧ y.cell? ⟨w.heap.size, 1, none⟩ = some (.int .u32 y0)) y := hS.out _ hy
      first
        | (refine h_run (i := 8) (v := ?_) hHeld rfl (by kernel_rfl) (by kernel_rfl) (by kernel_rfl) ?_ ?_ ?_
           rotate_left
           · rfl
           · (intro x hSx; (try dsimp only at hSx); go_simp <;> with_reducible rfl)
           simp only [Act.put, List.setIfInBounds_toArray, List.set_cons_zero, List.set_cons_succ])
        | (refine h_skip (i := 8) hHeld rfl (by kernel_rfl) (by kernel_rfl) (by kernel_rfl) ?_ ?_
           · rfl
           simp only [Act.put, List.setIfInBounds_toArray, List.set_cons_zero, List.set_cons_succ])
      first
        | (refine h_run (i := 9) (v := ?_) hHeld rfl (by kernel_rfl) (by kernel_rfl) (by kernel_rfl) ?_ ?_ ?_
           rotate_left
           · rfl
           · (intro x hSx; (try dsimp only at hSx); go_simp <;> with_reducible rfl)
           simp only [Act.put, List.setIfInBounds_toArray, List.set_cons_zero, List.set_cons_succ])
        | (refine h_skip (i := 9) hHeld rfl (by kernel_rfl) (by kernel_rfl) (by kernel_rfl) ?_ ?_
           · rfl
           simp only [Act.put, List.setIfInBounds_toArray, List.set_cons_zero, List.set_cons_succ])
      first
        | (refine h_run (i := 10) (v := ?_) hHeld rfl (by kernel_rfl) (by kernel_rfl) (by kernel_rfl) ?_ ?_ ?_
           rotate_left
           · rfl
           · (intro x hSx; (try dsimp only at hSx); go_simp <;> with_reducible rfl)
           simp only [Act.put, List.setIfInBounds_toArray, List.set_cons_zero, List.set_cons_succ])
        | (refine h_skip (i := 10) hHeld rfl (by kernel_rfl) (by kernel_rfl) (by kernel_rfl) ?_ ?_
           · rfl
           simp only [Act.put, List.setIfInBounds_toArray, List.set_cons_zero, List.set_cons_succ])
      clear hHeld
      have bq := blk_of hq
      have hyz := Lib.hid (below_setRow hy hBq #[.int .u32 no, .int .u32 fi, .int .i64 K, .int .i64 m, .slice s1 L c1])
      have hqz := Lib.hid (setRow_heap y q _ #[.int .u32 no, .int .u32 fi, .int .i64 K, .int .i64 m, .slice s1 L c1] 48 (0, 0) hq)
      have hoz : Hid (OwnS (y.setRow q #[.int .u32 no, .int .u32 fi, .int .i64 K, .int .i64 m, .slice s1 L c1]) X.heap.size (.slice s1 L c1) L 2 D) := hide (own_setG hos hq (by decide) (by decide) _)
      clear hq hos
      refine h_write (i := 12) (w' := y.setRow q #[.int .u32 no, .int .u32 fi, .int .i64 K, .int .i64 m, .slice s1 L c1]) (fun y : World => y.cell? ⟨w.heap.size, 0, none⟩ = some (.int .u32 x) ∧ y.cell? ⟨w.heap.size, 1, none⟩ = some (.int .u32 y0)) (fun _ h => h) rfl (by kernel_rfl) rfl ?_ (hS.out _ hyz.out) ?_
      · go_simp <;> with_reducible rfl
      have hHeld := hS.out _ hyz.out
      first
        | (refine h_run (i := 13) (v := ?_) hHeld rfl (by kernel_rfl) (by kernel_rfl) (by kernel_rfl) ?_ ?_ ?_
           rotate_left
           · rfl
           · (intro x hSx; (try dsimp only at hSx); go_simp <;> with_reducible rfl)
           simp only [Act.put, List.setIfInBounds_toArray, List.set_cons_zero, List.set_cons_succ])
        | (refine h_skip (i := 13) hHeld rfl (by kernel_rfl) (by kernel_rfl) (by kernel_rfl) ?_ ?_
           · rfl
           simp only [Act.put, List.setIfInBounds_toArray, List.set_cons_zero, List.set_cons_succ])
      clear hHeld bq
      refine h_done (by kernel_rfl) ?_
      go_wp2_with fail
      go_meet
      exact ⟨q, s1, c1, rfl, rfl, hqz, hoz, hyz, hBq⟩
    · intro y v u hy hu
      obtain ⟨s1, c1, rfl, hos0⟩ := hu
      simp only [Act.put, List.setIfInBounds_toArray, List.set_cons_zero, List.set_cons_succ]
      have hHeld : (fun y : World => y.cell? ⟨w.heap.size, 0, none⟩ = some (.int .u32 x) ∧ y.cell? ⟨w.heap.size, 1, none⟩ = some (.int .u32 y0)) y := hS.out _ hy
      first
        | (refine h_run (i := 8) (v := ?_) hHeld rfl (by kernel_rfl) (by kernel_rfl) (by kernel_rfl) ?_ ?_ ?_
           rotate_left
           · rfl
           · (intro x hSx; (try dsimp only at hSx); go_simp <;> with_reducible rfl)
           simp only [Act.put, List.setIfInBounds_toArray, List.set_cons_zero, List.set_cons_succ])
        | (refine h_skip (i := 8) hHeld rfl (by kernel_rfl) (by kernel_rfl) (by kernel_rfl) ?_ ?_
           · rfl
           simp only [Act.put, List.setIfInBounds_toArray, List.set_cons_zero, List.set_cons_succ])
      first
        | (refine h_run (i := 9) (v := ?_) hHeld rfl (by kernel_rfl) (by kernel_rfl) (by kernel_rfl) ?_ ?_ ?_
           rotate_left
           · rfl
           · (intro x hSx; (try dsimp only at hSx); go_simp <;> with_reducible rfl)
           simp only [Act.put, List.setIfInBounds_toArray, List.set_cons_zero, List.set_cons_succ])
        | (refine h_skip (i := 9) hHeld rfl (by kernel_rfl) (by kernel_rfl) (by kernel_rfl) ?_ ?_
           · rfl
           simp only [Act.put, List.setIfInBounds_toArray, List.set_cons_zero, List.set_cons_succ])
      first
        | (refine h_run (i := 10) (v := ?_) hHeld rfl (by kernel_rfl) (by kernel_rfl) (by kernel_rfl) ?_ ?_ ?_
           rotate_left
           · rfl
           · (intro x hSx; (try dsimp only at hSx); go_simp <;> with_reducible rfl)
           simp only [Act.put, List.setIfInBounds_toArray, List.set_cons_zero, List.set_cons_succ])
        | (refine h_skip (i := 10) hHeld rfl (by kernel_rfl) (by kernel_rfl) (by kernel_rfl) ?_ ?_
           · rfl
           simp only [Act.put, List.setIfInBounds_toArray, List.set_cons_zero, List.set_cons_succ])
      clear hHeld
      have hT1h := Lib.hid (show Below X.heap.size X (y.alloc (.cells #[.int .u32 0, .int .u32 0, .int .i64 0, .int .i64 0, .slice none 0 0] 48)) from hy.alloc hy.size _)
      have hosh := Lib.hid (hos0.below (below_one y (.cells #[.int .u32 0, .int .u32 0, .int .i64 0, .int .i64 0, .slice none 0 0] 48)))
      refine h_value (i := 11) (v := .pointer (some ⟨y.heap.size, 0, none⟩)) (w' := y.alloc (.cells #[.int .u32 0, .int .u32 0, .int .i64 0, .int .i64 0, .slice none 0 0] 48)) (fun y : World => y.cell? ⟨w.heap.size, 0, none⟩ = some (.int .u32 x) ∧ y.cell? ⟨w.heap.size, 1, none⟩ = some (.int .u32 y0)) (fun _ h => h) rfl (by kernel_rfl) rfl ?_ (hS.out _ hT1h.out) ?_
      · go_simp <;> with_reducible rfl
      have hq := last_block0 y (.cells #[.int .u32 0, .int .u32 0, .int .i64 0, .int .i64 0, .slice none 0 0] 48) _ rfl
      have hBq := hy.size
      clear hos0 hy
      generalize hqe : y.heap.size = q at *
      generalize World.alloc y _ = y at *
      have hy := hT1h.out
      have hos := hosh.out
      simp only [Act.put, List.setIfInBounds_toArray, List.set_cons_zero, List.set_cons_succ]
      have bq := blk_of hq
      have hyz := Lib.hid (below_setRow hy hBq #[.int .u32 no, .int .u32 fi, .int .i64 K, .int .i64 m, .slice s1 L c1])
      have hqz := Lib.hid (setRow_heap y q _ #[.int .u32 no, .int .u32 fi, .int .i64 K, .int .i64 m, .slice s1 L c1] 48 (0, 0) hq)
      have hoz : Hid (OwnS (y.setRow q #[.int .u32 no, .int .u32 fi, .int .i64 K, .int .i64 m, .slice s1 L c1]) X.heap.size (.slice s1 L c1) L 2 D) := hide (own_setG hos hq (by decide) (by decide) _)
      clear hq hos hy
      refine h_write (i := 12) (w' := y.setRow q #[.int .u32 no, .int .u32 fi, .int .i64 K, .int .i64 m, .slice s1 L c1]) (fun y : World => y.cell? ⟨w.heap.size, 0, none⟩ = some (.int .u32 x) ∧ y.cell? ⟨w.heap.size, 1, none⟩ = some (.int .u32 y0)) (fun _ h => h) rfl (by kernel_rfl) rfl ?_ (hS.out _ hyz.out) ?_
      · go_simp <;> with_reducible rfl
      have hHeld := hS.out _ hyz.out
      first
        | (refine h_run (i := 13) (v := ?_) hHeld rfl (by kernel_rfl) (by kernel_rfl) (by kernel_rfl) ?_ ?_ ?_
           rotate_left
           · rfl
           · (intro x hSx; (try dsimp only at hSx); go_simp <;> with_reducible rfl)
           simp only [Act.put, List.setIfInBounds_toArray, List.set_cons_zero, List.set_cons_succ])
        | (refine h_skip (i := 13) hHeld rfl (by kernel_rfl) (by kernel_rfl) (by kernel_rfl) ?_ ?_
           · rfl
           simp only [Act.put, List.setIfInBounds_toArray, List.set_cons_zero, List.set_cons_succ])
      clear hHeld bq
      refine h_done (by kernel_rfl) ?_
      go_wp2_with fail
      go_meet
      exact ⟨q, s1, c1, rfl, rfl, hqz, hoz, hyz, hBq⟩
  case rest =>
    obtain ⟨q, s1, c1, rfl, rfl, hq, ho1, hBw, hXq⟩ := hcut
    obtain ⟨n0, n1⟩ := hS.out _ hBw.out
    have krm := Lib.hid (hrmh.out wc (hzX.out.below hBw.out))
    clear hgmh hrmh hS
    go_wp2_with fail
    refine krm.out.mono ?_
    rintro e w3 ⟨s2, c2, rfl, ho2, hb3⟩
    have hqw := (Array.getElem?_eq_some_iff.1 hq.out).1
    have hs3 := hb3.size
    have hq3 := Lib.hid ((hb3.block _ hqw).trans hq.out)
    have ho13 := Lib.hid (ho1.out.below hb3)
    have ho2h := Lib.hid ho2
    have hB3 := Lib.hid (hBw.out.trans (hb3.mono hBw.out.size))
    have hsw := hBw.out.size
    clear krm hq ho1 hBw ho2 hb3 n0 n1
    go_upto_region 5 with (fail)
    obtain ⟨y1, y2, y3⟩ := boxed w3 #[.int .u32 0, .int .u32 0, .int .i64 0, .int .i64 0, .slice none 0 0] #[.int .u32 no, .int .u32 fi, .int .i64 K, .int .i64 m, .slice s2 L c2] 44
    have hY1 := Lib.hid y1
    have hY3 := Lib.hid y3
    generalize World.setRow (World.alloc w3 _) _ _ = Y at *
    obtain ⟨r, hr⟩ : ∃ r, w3.heap.size = r := ⟨_, rfl⟩
    have hqr : q < r := by omega
    rw [hr] at hY1 ⊢
    have hBY := Lib.hid (hBX.out.trans ((hB3.out.trans (hY3.out.mono (by omega))).mono (by omega)))
    have hqY := Lib.hid ((hY3.out.block _ (by omega)).trans hq3.out)
    have ho1Y := Lib.hid (ho13.out.below hY3.out)
    have ho2Y := Lib.hid (ho2h.out.below hY3.out)
    have hk1Y := Lib.hid ((hY3.out.block _ (by omega)).trans ((hB3.out.block _ (by omega)).trans k1.out))
    have bq := blk_of hqY.out
    have br := blk_of hY1.out
    have hYs : r < Y.heap.size := by omega
    have hwr : w.heap.size + 1 < q := by omega
    clear y1 y2 y3 hr hq3 ho13 ho2h hB3 hY3 k0 k1
    rcases hresh.out with ⟨rfl, rfl, hL0, hL, K2, m2, rfl, rfl⟩ | ⟨rfl, rfl, rfl, rfl, rfl, rfl, rfl⟩
    · obtain ⟨g1, rfl, hg1, hw1⟩ := own_it ho1Y.out hL0
      obtain ⟨g2, rfl, hg2, hw2⟩ := own_it ho2Y.out hL0
      have hw1h := Lib.hid hw1
      have hw2h := Lib.hid hw2
      clear hw1 hw2
      obtain ⟨sa, ca, ea, hra, _⟩ := ho1Y.out.open
      obtain ⟨sb, cb, eb, hrb, _⟩ := ho2Y.out.open
      injection ea with ea1 ea2 ea3
      injection eb with eb1 eb2 eb3
      subst ea1 ea3 eb1 eb3
      have hrah := Lib.hid hra
      have hrbh := Lib.hid hrb
      clear hra hrb ea2 eb2
      have krf := Lib.hid (fun x => l_ref17 no fi K2 m2 L (some ⟨g1, 0, none⟩) c1 x)
      have ksm := Lib.hid (fun x (hx : blk x q = some (.cells #[.int .u32 no, .int .u32 fi, .int .i64 (K2 : Nat), .int .i64 (m2 : Nat), .slice (some ⟨g1, 0, none⟩) L c1] 48 (0, 0)) ∧ blk x r = some (.cells #[.int .u32 no, .int .u32 fi, .int .i64 (K2 : Nat), .int .i64 (m2 : Nat), .slice (some ⟨g2, 0, none⟩) L c2] 44 (0, 0)) ∧ Below Y.heap.size Y x) => r_same17 no fi K2 m2 L 2 _ _ c1 c2 D x (hrah.out.below hx.2.2) (hrbh.out.below hx.2.2) (by omega) (by omega))
      have hSh : Hid (∀ y, Below Y.heap.size Y y → blk y q = some (.cells #[.int .u32 no, .int .u32 fi, .int .i64 (K2 : Nat), .int .i64 (m2 : Nat), .slice (some ⟨g1, 0, none⟩) L c1] 48 (0, 0)) ∧ blk y r = some (.cells #[.int .u32 no, .int .u32 fi, .int .i64 (K2 : Nat), .int .i64 (m2 : Nat), .slice (some ⟨g2, 0, none⟩) L c2] 44 (0, 0)) ∧ Below Y.heap.size Y y) := hide (fun y hy => ⟨blk_of ((hy.block _ (by omega)).trans hqY.out), blk_of ((hy.block _ hYs).trans hY1.out), hy⟩)
      have hclh := Lib.hid (fun (x x' : World) (h : blk x q = some (.cells #[.int .u32 no, .int .u32 fi, .int .i64 (K2 : Nat), .int .i64 (m2 : Nat), .slice (some ⟨g1, 0, none⟩) L c1] 48 (0, 0)) ∧ blk x r = some (.cells #[.int .u32 no, .int .u32 fi, .int .i64 (K2 : Nat), .int .i64 (m2 : Nat), .slice (some ⟨g2, 0, none⟩) L c2] 44 (0, 0)) ∧ Below Y.heap.size Y x) (hb : Below x.heap.size x x') => hSh.out x' (below_step h.2.2 h.2.2.size hb))
      clear bq br
      go_upto_region 7 with (fail)
      refine wp_region_quiet (C := fun y : World => blk y q = some (.cells #[.int .u32 no, .int .u32 fi, .int .i64 (K2 : Nat), .int .i64 (m2 : Nat), .slice (some ⟨g1, 0, none⟩) L c1] 48 (0, 0)) ∧ blk y r = some (.cells #[.int .u32 no, .int .u32 fi, .int .i64 (K2 : Nat), .int .i64 (m2 : Nat), .slice (some ⟨g2, 0, none⟩) L c2] 44 (0, 0)) ∧ Below Y.heap.size Y y) (by kernel_rfl) (by kernel_rfl) (hSh.out _ (below_drewN (Below.refl _ _) 1)) ?_
      repeat (first
        | (refine q_run (v := ?_) ?_ ?_ ?_
           rotate_left
           · rfl
           · (intro x hSx; (try dsimp only at hSx); go_simp <;> with_reducible rfl)
           simp only [Act.put, List.setIfInBounds_toArray, List.set_cons_zero, List.set_cons_succ])
        | (refine q_skip ?_ ?_
           · rfl
           simp only [Act.put, List.setIfInBounds_toArray, List.set_cons_zero, List.set_cons_succ])
        | (refine q_call (fun x _ => krf.out x) hclh.out ?_ ?_ ?_
           · rfl
           · (intro x hSx; (try dsimp only at hSx); go_simp <;> with_reducible rfl)
           simp only [Act.put, List.setIfInBounds_toArray, List.set_cons_zero, List.set_cons_succ])
        | (refine q_call (fun x hCx => ksm.out x hCx) hclh.out ?_ ?_ ?_
           · rfl
           · (intro x hSx; (try dsimp only at hSx); go_simp <;> with_reducible rfl)
           simp only [Act.put, List.setIfInBounds_toArray, List.set_cons_zero, List.set_cons_succ]))
      refine wpQuiet_nil ?_
      intro x hSx
      obtain ⟨bq, br, hbx⟩ := hSx
      have hYx := Lib.hid hbx
      have hsx := hbx.size
      have hfn := hfnh.out
      clear hbx krf ksm hSh hclh
      go_wp2_with fail
      refine (g_all #[.int .u32 no, .int .u32 fi, .int .i64 (K2 : Nat), .int .i64 (m2 : Nat), .slice (some ⟨g1, 0, none⟩) L c1] x).mono ?_
      rintro e Z ⟨rfl, hZ⟩
      have hZb := Lib.hid (below_one x (.cells #[.int .u32 no, .int .u32 fi, .int .i64 (K2 : Nat), .int .i64 (m2 : Nat), .slice (some ⟨g1, 0, none⟩) L c1] 48))
      have hZn := Lib.hid (last_block0 x (.cells #[.int .u32 no, .int .u32 fi, .int .i64 (K2 : Nat), .int .i64 (m2 : Nat), .slice (some ⟨g1, 0, none⟩) L c1] 48) _ rfl)
      have hZs : (x.alloc (.cells #[.int .u32 no, .int .u32 fi, .int .i64 (K2 : Nat), .int .i64 (m2 : Nat), .slice (some ⟨g1, 0, none⟩) L c1] 48)).heap.size = x.heap.size + 1 := by show (x.heap.push _).size = _; rw [Array.size_push]
      rw [hZ] at hZb hZn hZs
      have hZsh := Lib.hid hZs
      clear hZ bq br hZs
      go_wp2_with fail
      have hL1 := last_block0 Z (.cells #[.int .i64 0] 3) _ rfl
      have hLb := below_one Z (.cells #[.int .i64 0] 3)
      have hLs : (Z.alloc (.cells #[.int .i64 0] 3)).heap.size = Z.heap.size + 1 := by show (Z.heap.push _).size = _; rw [Array.size_push]
      generalize World.alloc Z _ = U at *
      obtain ⟨d, hd⟩ : ∃ d, Z.heap.size = d := ⟨_, rfl⟩
      rw [hd] at hL1 hLs hLb ⊢
      have hxd : x.heap.size + 1 = d := by have := hZsh.out; omega
      have hYU : Hid (Below Y.heap.size Y U) := hide ((hYx.out.trans (hZb.out.mono (by omega))).trans (hLb.mono (by omega)))
      have hIt : Hid (ItAt U d x.heap.size no fi K2 m2 L g1 0 c1 D) := hide ⟨(hLb.block _ (by omega)).trans hZn.out, by omega, by omega, by omega, fun i hi => by
        obtain ⟨rg, rc, h1, h2, h3⟩ := hw1h.out i hi
        exact ⟨rg, rc, by omega, (hYU.out.cell (cell_block_lt h2)).trans h2, h3.below hYU.out h1⟩⟩
      have hBU := Lib.hid (hBY.out.trans (hYU.out.mono hBY.out.size))
      have hL1h := Lib.hid hL1
      obtain ⟨hu1, hu2⟩ : d + 1 ≤ U.heap.size ∧ U.heap.size ≤ d + 1 := by omega
      clear hLs
      clear hL1 hLb hZb hZn hYx
      refine (wpIn_wide (n := 3)).1 ?_
      refine range_x (α := Nat × Nat) (gf := 37) (N := L) (n₀ := d) (lb := #[.pointer (some ⟨x.heap.size, 0, none⟩)]) (encs := fun k p => #[.int .i64 (k : Nat), .agg #[.int .i64 (dgK K2 k), .int .u32 0, .int .u32 0, .int .i64 0, .int .u32 0, .int .u32 no, .int .u32 fi, .int .i64 (K2 : Nat), .int .i64 (m2 : Nat), .int .i64 (k : Nat), .slice (some ⟨p.1, 0, none⟩) 2 p.2]]) (X := fun k p V => U.heap.size + 2 ≤ p.1 ∧ BRow V p.1 2 (D k))
        rfl (enters_of Try.func37 (by kernel_rfl) rfl) (by omega) (fun l J W hB hs hJ hY h0 => g_all1 (3 - 1) l x.heap.size d (U.heap.size + 2) no fi K2 m2 L g1 0 c1 D J (by decide) (by omega) hJ hY W hs (hIt.out.below (hB.mono (by omega))) h0)
        (fun _ _ => rfl) (fun k V => Below d U V ∧ V.heap[d]? = some (.cells #[.int .i64 (k : Nat)] 3 (0, 0)))
        (fun k V V' h hb => ⟨h.1.trans (hb.mono (by have := h.1.size; omega)), (hb.block _ (Array.getElem?_eq_some_iff.1 h.2).1).trans h.2⟩)
        (fun k V j o h h1 h2 => ⟨h.1.trans (below_put V j o (by omega) (by have := h.1.size; omega)), (World.putObj_heap_other (by omega)).trans h.2⟩)
        ⟨Below.refl _ _, hL1h.out⟩ ?round ?done
      case round =>
        rintro l k p V Kc hsV ⟨hst, hk⟩ ⟨hp1, hp2⟩ hkL hK
        have hp1h := Lib.hid hp1
        have hp2h := Lib.hid hp2
        have hsth := Lib.hid hst
        have hkh := Lib.hid hk
        clear hp1 hp2 hst hk
        gi_wp2
        obtain ⟨y1, y2, y3⟩ := boxed V #[.int .i64 0, .int .u32 0, .int .u32 0, .int .i64 0, .int .u32 0, .int .u32 0, .int .u32 0, .int .i64 0, .int .i64 0, .int .i64 0, .slice none 0 0] #[.int .i64 (dgK K2 k), .int .u32 0, .int .u32 0, .int .i64 0, .int .u32 0, .int .u32 no, .int .u32 fi, .int .i64 (K2 : Nat), .int .i64 (m2 : Nat), .int .i64 (k : Nat), .slice (some ⟨p.1, 0, none⟩) 2 p.2] 71
        have hp3 := hp2h.out.below y3 hp2h.out.lt
        generalize World.setRow (World.alloc V _) _ _ = V1 at *
        obtain ⟨e14, he14⟩ : ∃ e, V.heap.size = e := ⟨_, rfl⟩
        rw [he14] at y1 ⊢
        refine hK _ _ y3 (fun V2 hb12 hs2 hot => ?_)
        have hUV : Hid (Below d U V2) := hide (hsth.out.trans ((y3.mono (by have := hsth.out.size; omega)).trans hb12))
        have h14 := Lib.hid ((hot e14 (by omega)).trans y1)
        have hd2 := Lib.hid ((hot d (by omega)).trans ((y3.block d (by omega)).trans hkh.out))
        have hpV2 : Hid (BRow V2 p.1 2 (D k)) := hide (hp3.stay (hot p.1 (by have := hp1h.out; omega)))
        have hIt2 := Lib.hid (hIt.out.below hUV.out)
        obtain ⟨rg, rc, hrg, hcell, hrow⟩ := hIt2.out.row k hkL
        have kdg := Lib.hid (g_datagram no fi K2 m2 k L g1 0 c1 rg rc (D k) V2 hkL hcell hrow)
        have hqU := Lib.hid ((hUV.out.block q (by omega)).trans ((hYU.out.block q (by omega)).trans hqY.out))
        have hrU := Lib.hid ((hUV.out.block r (by omega)).trans ((hYU.out.block r hYs).trans hY1.out))
        have bq := blk_of hqU.out
        have hsV2 : e14 < V2.heap.size := by omega
        clear hK y1 y3 hp3 hcell hrow hb12 hot
        gi_wp2
        refine ⟨trivial, CallsIn.inRound l (callsIn_wide.2 (kdg.out.mono ?_))⟩
        rintro e V3 ⟨g, c, rfl, hg, hr3, hb3⟩
        have hr3h := Lib.hid hr3
        have hb3h := Lib.hid hb3
        have hs3' := hb3.size
        clear kdg bq hr3 hb3
        gi_upto_region 17 with (fail)
        obtain ⟨y1, y2, y3⟩ := boxed V3 #[.int .i64 0, .int .u32 0, .int .u32 0, .int .i64 0, .int .u32 0, .int .u32 0, .int .u32 0, .int .i64 0, .int .i64 0, .int .i64 0, .slice none 0 0] #[.int .i64 (dgK K2 k), .int .u32 0, .int .u32 0, .int .i64 0, .int .u32 0, .int .u32 no, .int .u32 fi, .int .i64 (K2 : Nat), .int .i64 (m2 : Nat), .int .i64 (k : Nat), .slice (some ⟨g, 0, none⟩) 2 c] 71
        have hbr4 := Lib.hid (hr3h.out.below y3 hr3h.out.lt)
        have h24 := Lib.hid (hb3h.out.trans (y3.mono hs3'))
        generalize World.setRow (World.alloc V3 _) _ _ = V4 at *
        obtain ⟨e15, he15⟩ : ∃ e, V3.heap.size = e := ⟨_, rfl⟩
        rw [he15] at y1 ⊢
        have h15 := Lib.hid y1
        have h144 := Lib.hid ((h24.out.block e14 hsV2).trans h14.out)
        have hd4 := Lib.hid ((h24.out.block d (by omega)).trans hd2.out)
        have hr4 := Lib.hid ((h24.out.block r (by omega)).trans hrU.out)
        have hp4 := Lib.hid (hpV2.out.below h24.out hpV2.out.lt)
        obtain ⟨rg2, rc2, hrg2, hcell2, hrow2⟩ := hw2h.out k hkL
        have hYV : Hid (Below Y.heap.size Y V4) := hide (((hYU.out.trans (hUV.out.mono (by omega))).trans (h24.out.mono (by omega))))
        have hcell4 := Lib.hid ((hYV.out.cell (cell_block_lt hcell2)).trans hcell2)
        have hrow4 := Lib.hid (hrow2.below hYV.out hrg2)
        have hs4 : e15 < V4.heap.size := by omega
        have hs42 := h24.out.size
        clear y1 y3 hcell2 hrow2 he14 he15
        have krd := Lib.hid (fun y (hx : blk y e14 = some (.cells #[.int .i64 (dgK K2 k), .int .u32 0, .int .u32 0, .int .i64 0, .int .u32 0, .int .u32 no, .int .u32 fi, .int .i64 (K2 : Nat), .int .i64 (m2 : Nat), .int .i64 (k : Nat), .slice (some ⟨p.1, 0, none⟩) 2 p.2] 71 (0, 0)) ∧ blk y e15 = some (.cells #[.int .i64 (dgK K2 k), .int .u32 0, .int .u32 0, .int .i64 0, .int .u32 0, .int .u32 no, .int .u32 fi, .int .i64 (K2 : Nat), .int .i64 (m2 : Nat), .int .i64 (k : Nat), .slice (some ⟨g, 0, none⟩) 2 c] 71 (0, 0)) ∧ blk y r = some (.cells #[.int .u32 no, .int .u32 fi, .int .i64 (K2 : Nat), .int .i64 (m2 : Nat), .slice (some ⟨g2, 0, none⟩) L c2] 44 (0, 0)) ∧ y.cell? ⟨d, 0, none⟩ = some (.int .i64 (k : Nat)) ∧ y.cell? ⟨r, 4, none⟩ = some (.slice (some ⟨g2, 0, none⟩) L c2) ∧ Below V4.heap.size V4 y) => r_datagram no fi K2 m2 k L g2 0 c2 rg2 rc2 y hkL ((hx.2.2.2.2.2.cell (cell_block_lt hcell4.out)).trans hcell4.out))
        have ks1 := Lib.hid (fun y (hx : blk y e14 = some (.cells #[.int .i64 (dgK K2 k), .int .u32 0, .int .u32 0, .int .i64 0, .int .u32 0, .int .u32 no, .int .u32 fi, .int .i64 (K2 : Nat), .int .i64 (m2 : Nat), .int .i64 (k : Nat), .slice (some ⟨p.1, 0, none⟩) 2 p.2] 71 (0, 0)) ∧ blk y e15 = some (.cells #[.int .i64 (dgK K2 k), .int .u32 0, .int .u32 0, .int .i64 0, .int .u32 0, .int .u32 no, .int .u32 fi, .int .i64 (K2 : Nat), .int .i64 (m2 : Nat), .int .i64 (k : Nat), .slice (some ⟨g, 0, none⟩) 2 c] 71 (0, 0)) ∧ blk y r = some (.cells #[.int .u32 no, .int .u32 fi, .int .i64 (K2 : Nat), .int .i64 (m2 : Nat), .slice (some ⟨g2, 0, none⟩) L c2] 44 (0, 0)) ∧ y.cell? ⟨d, 0, none⟩ = some (.int .i64 (k : Nat)) ∧ y.cell? ⟨r, 4, none⟩ = some (.slice (some ⟨g2, 0, none⟩) L c2) ∧ Below V4.heap.size V4 y) => r_same07 (dgK K2 k) 0 0 0 0 no fi K2 m2 k (some ⟨p.1, 0, none⟩) (some ⟨rg2, 0, none⟩) p.2 rc2 (D k) y (hp4.out.below hx.2.2.2.2.2 hp4.out.lt).by (hrow4.out.below hx.2.2.2.2.2 hrow4.out.lt).by)
        have ks2 := Lib.hid (fun y (hx : blk y e14 = some (.cells #[.int .i64 (dgK K2 k), .int .u32 0, .int .u32 0, .int .i64 0, .int .u32 0, .int .u32 no, .int .u32 fi, .int .i64 (K2 : Nat), .int .i64 (m2 : Nat), .int .i64 (k : Nat), .slice (some ⟨p.1, 0, none⟩) 2 p.2] 71 (0, 0)) ∧ blk y e15 = some (.cells #[.int .i64 (dgK K2 k), .int .u32 0, .int .u32 0, .int .i64 0, .int .u32 0, .int .u32 no, .int .u32 fi, .int .i64 (K2 : Nat), .int .i64 (m2 : Nat), .int .i64 (k : Nat), .slice (some ⟨g, 0, none⟩) 2 c] 71 (0, 0)) ∧ blk y r = some (.cells #[.int .u32 no, .int .u32 fi, .int .i64 (K2 : Nat), .int .i64 (m2 : Nat), .slice (some ⟨g2, 0, none⟩) L c2] 44 (0, 0)) ∧ y.cell? ⟨d, 0, none⟩ = some (.int .i64 (k : Nat)) ∧ y.cell? ⟨r, 4, none⟩ = some (.slice (some ⟨g2, 0, none⟩) L c2) ∧ Below V4.heap.size V4 y) => r_same07 (dgK K2 k) 0 0 0 0 no fi K2 m2 k (some ⟨g, 0, none⟩) (some ⟨p.1, 0, none⟩) c p.2 (D k) y (hbr4.out.below hx.2.2.2.2.2 hbr4.out.lt).by (hp4.out.below hx.2.2.2.2.2 hp4.out.lt).by)
        have hSh : Hid (∀ y, Below V4.heap.size V4 y → blk y e14 = some (.cells #[.int .i64 (dgK K2 k), .int .u32 0, .int .u32 0, .int .i64 0, .int .u32 0, .int .u32 no, .int .u32 fi, .int .i64 (K2 : Nat), .int .i64 (m2 : Nat), .int .i64 (k : Nat), .slice (some ⟨p.1, 0, none⟩) 2 p.2] 71 (0, 0)) ∧ blk y e15 = some (.cells #[.int .i64 (dgK K2 k), .int .u32 0, .int .u32 0, .int .i64 0, .int .u32 0, .int .u32 no, .int .u32 fi, .int .i64 (K2 : Nat), .int .i64 (m2 : Nat), .int .i64 (k : Nat), .slice (some ⟨g, 0, none⟩) 2 c] 71 (0, 0)) ∧ blk y r = some (.cells #[.int .u32 no, .int .u32 fi, .int .i64 (K2 : Nat), .int .i64 (m2 : Nat), .slice (some ⟨g2, 0, none⟩) L c2] 44 (0, 0)) ∧ y.cell? ⟨d, 0, none⟩ = some (.int .i64 (k : Nat)) ∧ y.cell? ⟨r, 4, none⟩ = some (.slice (some ⟨g2, 0, none⟩) L c2) ∧ Below V4.heap.size V4 y) := hide (fun y hy => ⟨blk_of ((hy.block e14 (by omega)).trans h144.out), blk_of ((hy.block e15 hs4).trans h15.out), blk_of ((hy.block r (by omega)).trans hr4.out), (cell_of_block ((hy.block d (by omega)).trans hd4.out)).trans rfl, (cell_of_block ((hy.block r (by omega)).trans hr4.out)).trans rfl, hy⟩)
        have hclh := Lib.hid (fun (x x' : World) (h : blk x e14 = some (.cells #[.int .i64 (dgK K2 k), .int .u32 0, .int .u32 0, .int .i64 0, .int .u32 0, .int .u32 no, .int .u32 fi, .int .i64 (K2 : Nat), .int .i64 (m2 : Nat), .int .i64 (k : Nat), .slice (some ⟨p.1, 0, none⟩) 2 p.2] 71 (0, 0)) ∧ blk x e15 = some (.cells #[.int .i64 (dgK K2 k), .int .u32 0, .int .u32 0, .int .i64 0, .int .u32 0, .int .u32 no, .int .u32 fi, .int .i64 (K2 : Nat), .int .i64 (m2 : Nat), .int .i64 (k : Nat), .slice (some ⟨g, 0, none⟩) 2 c] 71 (0, 0)) ∧ blk x r = some (.cells #[.int .u32 no, .int .u32 fi, .int .i64 (K2 : Nat), .int .i64 (m2 : Nat), .slice (some ⟨g2, 0, none⟩) L c2] 44 (0, 0)) ∧ x.cell? ⟨d, 0, none⟩ = some (.int .i64 (k : Nat)) ∧ x.cell? ⟨r, 4, none⟩ = some (.slice (some ⟨g2, 0, none⟩) L c2) ∧ Below V4.heap.size V4 x) (hb : Below x.heap.size x x') => hSh.out x' (below_step h.2.2.2.2.2 h.2.2.2.2.2.size hb))
        have e0 := int_neb (k : Int)
        have e1 : decide ((L : Int) ≤ (k : Int)) = false := decide_eq_false (by omega)
        have e2 : decide (L ≤ k) = false := decide_eq_false (by omega)
        refine rnd_quiet (C := fun y : World => blk y e14 = some (.cells #[.int .i64 (dgK K2 k), .int .u32 0, .int .u32 0, .int .i64 0, .int .u32 0, .int .u32 no, .int .u32 fi, .int .i64 (K2 : Nat), .int .i64 (m2 : Nat), .int .i64 (k : Nat), .slice (some ⟨p.1, 0, none⟩) 2 p.2] 71 (0, 0)) ∧ blk y e15 = some (.cells #[.int .i64 (dgK K2 k), .int .u32 0, .int .u32 0, .int .i64 0, .int .u32 0, .int .u32 no, .int .u32 fi, .int .i64 (K2 : Nat), .int .i64 (m2 : Nat), .int .i64 (k : Nat), .slice (some ⟨g, 0, none⟩) 2 c] 71 (0, 0)) ∧ blk y r = some (.cells #[.int .u32 no, .int .u32 fi, .int .i64 (K2 : Nat), .int .i64 (m2 : Nat), .slice (some ⟨g2, 0, none⟩) L c2] 44 (0, 0)) ∧ y.cell? ⟨d, 0, none⟩ = some (.int .i64 (k : Nat)) ∧ y.cell? ⟨r, 4, none⟩ = some (.slice (some ⟨g2, 0, none⟩) L c2) ∧ Below V4.heap.size V4 y) (by kernel_rfl) (by kernel_rfl) (by kernel_rfl) (hSh.out _ (below_drewN (Below.refl _ _) 1)) ?_
        repeat (first
          | (refine q_run (v := ?_) ?_ ?_ ?_
             rotate_left
             · rfl
             · (intro x hSx; (try dsimp only at hSx); go_simp <;> with_reducible rfl)
             simp only [Act.put, List.setIfInBounds_toArray, List.set_cons_zero, List.set_cons_succ])
          | (refine q_skip ?_ ?_
             · rfl
             simp only [Act.put, List.setIfInBounds_toArray, List.set_cons_zero, List.set_cons_succ])
          | (refine q_call (fun x hCx => krd.out x hCx) hclh.out ?_ ?_ ?_
             · rfl
             · (intro x hSx; (try dsimp only at hSx); go_simp <;> with_reducible rfl)
             simp only [Act.put, List.setIfInBounds_toArray, List.set_cons_zero, List.set_cons_succ])
          | (refine q_call (fun x hCx => ks1.out x hCx) hclh.out ?_ ?_ ?_
             · rfl
             · (intro x hSx; (try dsimp only at hSx); go_simp <;> with_reducible rfl)
             simp only [Act.put, List.setIfInBounds_toArray, List.set_cons_zero, List.set_cons_succ])
          | (refine q_call (fun x hCx => ks2.out x hCx) hclh.out ?_ ?_ ?_
             · rfl
             · (intro x hSx; (try dsimp only at hSx); go_simp <;> with_reducible rfl)
             simp only [Act.put, List.setIfInBounds_toArray, List.set_cons_zero, List.set_cons_succ]))
        refine wpQuiet_nil ?_
        intro x hSx
        obtain ⟨_, _, _, cd, _, hbx⟩ := hSx
        have hbd := (hbx.block d (by omega)).trans hd4.out
        have fd := frozen_of_row x d 0 _ _ hbd
        have hbdh := Lib.hid hbd
        have hb2x := Lib.hid (h24.out.trans (hbx.mono hs42))
        clear hbx hbd krd ks1 ks2 hSh hclh
        have hUd := hUV.out.size
        have hend : Hid (Below d V2 (x.setCell ⟨d, 0, none⟩ (.int .i64 ((k : Int) + 1))) ∧ (∀ j, U.heap.size ≤ j → j < U.heap.size + 2 → (x.setCell ⟨d, 0, none⟩ (.int .i64 ((k : Int) + 1))).heap[j]? = V2.heap[j]?) ∧ Below d U (x.setCell ⟨d, 0, none⟩ (.int .i64 ((k : Int) + 1))) ∧ (x.setCell ⟨d, 0, none⟩ (.int .i64 ((k : Int) + 1))).heap[d]? = some (.cells #[.int .i64 ((k : Int) + 1)] 3 (0, 0))) := hide (by
          have q1 : Below d V2 (x.setCell ⟨d, 0, none⟩ (.int .i64 ((k : Int) + 1))) := (hb2x.out.mono (show d ≤ V2.heap.size by omega)).setCell (p := ⟨d, 0, none⟩) (Nat.le_refl _) _
          refine ⟨q1, fun j h1 h2 => ?_, hUV.out.trans q1, ?_⟩
          · exact (heap_setCell_other x ⟨d, 0, none⟩ j _ (by show j ≠ d; omega)).trans (hb2x.out.block j (by omega))
          · rw [blk_set hbdh.out 0 _]; rfl)
        gi_wp2
        exact hend.out
      case done =>
        rintro V ⟨hst, hk⟩ hD hsV
        have hsth := Lib.hid hst
        have hkh := Lib.hid hk
        have hDh := Lib.hid hD
        have hqV := Lib.hid ((hst.block q (by omega)).trans ((hYU.out.block q (by omega)).trans hqY.out))
        have hrV := Lib.hid ((hst.block r (by omega)).trans ((hYU.out.block r hYs).trans hY1.out))
        have hRV := Lib.hid ((hst.block (w.heap.size + 1) (by omega)).trans ((hYU.out.block _ (by omega)).trans hk1Y.out))
        have hBV := Lib.hid (hBU.out.trans (hst.mono (by omega)))
        have kd1 := Lib.hid (fun y => g_datagram_no no fi (K2 : Nat) (m2 : Nat) (some ⟨g1, 0, none⟩) L c1 (-1) y (.inl (by decide)))
        have kd2 := Lib.hid (fun y => g_datagram_no no fi (K2 : Nat) (m2 : Nat) (some ⟨g1, 0, none⟩) L c1 (L : Int) y (.inr (Int.le_refl _)))
        have bq := blk_of hqV.out
        clear hst hk hD
        go_wp2_with fail
        refine (kd1.out V).mono ?_
        rintro e V3 ⟨rfl, hb3⟩
        have hb3h := Lib.hid hb3
        have hs3v := hb3.size
        clear bq hb3
        go_upto_region 21 with (fail)
        obtain ⟨y1, y2, y3⟩ := boxed V3 #[.int .i64 0, .int .u32 0, .int .u32 0, .int .i64 0, .int .u32 0, .int .u32 0, .int .u32 0, .int .i64 0, .int .i64 0, .int .i64 0, .slice none 0 0] #[.int .i64 0, .int .u32 0, .int .u32 0, .int .i64 0, .int .u32 0, .int .u32 0, .int .u32 0, .int .i64 0, .int .i64 0, .int .i64 0, .slice none 0 0] 71
        have hV4 := Lib.hid (hb3h.out.trans (y3.mono hs3v))
        generalize World.setRow (World.alloc V3 _) _ _ = V4 at *
        have bq := blk_of ((hV4.out.block q (by omega)).trans hqV.out)
        have cr := (cell_of_block ((hV4.out.block r (by omega)).trans hrV.out)).trans (show #[Value.int .u32 no, .int .u32 fi, .int .i64 (K2 : Nat), .int .i64 (m2 : Nat), .slice (some ⟨g2, 0, none⟩) L c2][4]? = some (Value.slice (some ⟨g2, 0, none⟩) L c2) from rfl)
        clear y1 y2 y3
        go_wp2_with fail
        refine (kd2.out V4).mono ?_
        rintro e V5 ⟨rfl, hb5⟩
        have hb5h := Lib.hid hb5
        have hs5v := hb5.size
        clear bq cr hb5
        go_upto_region 22 with (fail)
        obtain ⟨y1, y2, y3⟩ := boxed V5 #[.int .i64 0, .int .u32 0, .int .u32 0, .int .i64 0, .int .u32 0, .int .u32 0, .int .u32 0, .int .i64 0, .int .i64 0, .int .i64 0, .slice none 0 0] #[.int .i64 0, .int .u32 0, .int .u32 0, .int .i64 0, .int .u32 0, .int .u32 0, .int .u32 0, .int .i64 0, .int .i64 0, .int .i64 0, .slice none 0 0] 71
        have hs4v := hV4.out.size
        have hV6 := Lib.hid (hV4.out.trans ((hb5h.out.trans (y3.mono hs5v)).mono hs4v))
        generalize World.setRow (World.alloc V5 _) _ _ = V6 at *
        have cr := (cell_of_block ((hV6.out.block r (by omega)).trans hrV.out)).trans (show #[Value.int .u32 no, .int .u32 fi, .int .i64 (K2 : Nat), .int .i64 (m2 : Nat), .slice (some ⟨g2, 0, none⟩) L c2][4]? = some (Value.slice (some ⟨g2, 0, none⟩) L c2) from rfl)
        have cd := cell_of_one ((hV6.out.block d (by omega)).trans hkh.out)
        have hR6 := (hV6.out.block (w.heap.size + 1) (by omega)).trans hRV.out
        have hR6h := Lib.hid hR6
        have cR := cell_of_one hR6
        have fR := frozen_of_row _ _ 0 _ _ hR6
        have e0 := int_eqb (L : Int)
        clear y1 y2 y3 hR6
        go_wp2_with fail
        have hK2 : (V6.setCell ⟨w.heap.size + 1, 0, none⟩ (.bool true)).heap[U.heap.size]? = some (.deferred (some [])) := (heap_setCell_other V6 ⟨w.heap.size + 1, 0, none⟩ U.heap.size _ (by show U.heap.size ≠ w.heap.size + 1; omega)).trans ((hV6.out.block _ (by omega)).trans hDh.out)
        have hR2 : (V6.setCell ⟨w.heap.size + 1, 0, none⟩ (.bool true)).heap[w.heap.size + 1]? = some (.cells #[.bool true] 4 (0, 0)) := blk_set hR6h.out 0 _
        have hb2 : Below w.heap.size w (V6.setCell ⟨w.heap.size + 1, 0, none⟩ (.bool true)) := (hBV.out.trans (hV6.out.mono hBV.out.size)).setCell (p := ⟨w.heap.size + 1, 0, none⟩) (by show _ ≤ w.heap.size + 1; omega) _
        generalize World.setCell V6 _ _ = V7 at *
        have hc5 := cell_kept (cell_of_one hR2) (grownBy_putObj' _ U.heap.size (.deferred none)) (fun r e => by cases e; exact ⟨_, hK2, rfl⟩)
        refine ⟨by simp, .inl ⟨_, _, rfl, run_takeDeferred hK2, ?_⟩⟩
        refine ⟨.bool true, ?_, rfl, hb2.trans (belowK_b (w := w) (Nat.le_refl _) V7 U.heap.size _ _ (by omega) hK2 rfl rfl)⟩
        simp [results, Try.f5, go_sem, hc5]
    · obtain ⟨sa, ca, ea, hra, _⟩ := ho1Y.out.open
      injection ea with ea1 ea2 ea3
      subst ea1 ea3
      have hrah := Lib.hid hra
      have hrb : RowsAt Y none 0 2 D := by
        obtain ⟨sb, cb, eb, hrb, _⟩ := (OwnS.nil Y 0 2 D).open
        injection eb with eb1 eb2 eb3
        subst eb1
        exact hrb
      have hrbh := Lib.hid hrb
      clear hra hrb ea2
      have krf := Lib.hid (fun x => l_ref17 0 0 0 0 0 s1 c1 x)
      have ksm := Lib.hid (fun x (hx : Below Y.heap.size Y x) => r_same17 0 0 0 0 0 2 s1 none c1 0 D x (hrah.out.below hx) (hrbh.out.below hx) (by omega) (by omega))
      go_wp2_with fail
      refine (krf.out Y).mono ?_
      rintro e Y2 ⟨rfl, hb2⟩
      have hb2h := Lib.hid hb2
      clear hb2 bq br
      go_wp2_with fail
      refine (ksm.out Y2 hb2h.out).mono ?_
      rintro e Y3 ⟨rfl, hb3⟩
      have hY3 := Lib.hid (hb2h.out.trans (hb3.mono hb2h.out.size))
      have hR := (hY3.out.block (w.heap.size + 1) (by omega)).trans hk1Y.out
      have hRh := Lib.hid hR
      have cR := cell_of_one hR
      have fR := frozen_of_row _ _ 0 _ _ hR
      have hBf := Lib.hid ((hBY.out.trans (hY3.out.mono hBY.out.size)).setCell (p := ⟨w.heap.size + 1, 0, none⟩) (by show _ ≤ w.heap.size + 1; omega) (.bool true))
      have hRf : Hid ((Y3.setCell ⟨w.heap.size + 1, 0, none⟩ (.bool true)).heap[w.heap.size + 1]? = some (.cells #[.bool true] 4 (0, 0))) := hide (blk_set hRh.out 0 _)
      clear hb3 hR
      go_wp2_with fail
      have hRff := cell_of_one hRf.out
      refine ⟨.bool true, ?_, rfl, hBf.out⟩
      simp [results, Try.f5, go_sem, hRff]
end Go.Proofs.Ytipfoclmdbbjiaa
