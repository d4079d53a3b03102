/- The law's missing of layer 8: the numbers that are told to be missing are just those. Conditions: none. -/
import Derived.Test.YtickioeepicgcaaSeqIter
import Derived.Test.YtickioeepicgcaaSeqPlayed
import Derived.Test.YtickioeepicgcaaFnNil
namespace Go.Proofs.Ytickioeepicgcaa
open Go.RowKit Go.Shelf
attribute [local irreducible] behindZ bw goneM sqLost sqHoles sqHas sqTake sqA rkA msL msZ foldS
attribute [local go_sem] Oper.semAt_some
attribute [local irreducible] blk wLoad wLoadRes loadAns wStore wStoreRes storeAns Plain
attribute [local go_sem ↓] ld_rk0 ld_sq0 st_sq0 st_rk0
attribute [local go_sem] ld_rk loadAns_some rk_size69 ld_sq st_sq st_rk storeAns_some sq_size6 sq_plain rk_plain blk_alloc_if blk_setRow_if blk_drew_at blk_drewN_at rowPut_some
/-- five boxes, one behind the other -/
theorem five_boxes (w : World) (A B C D E : Obj) :
    (((((w.alloc A).alloc B).alloc C).alloc D).alloc E).heap[w.heap.size]? = some A ∧ (((((w.alloc A).alloc B).alloc C).alloc D).alloc E).heap[w.heap.size + 1]? = some B ∧ (((((w.alloc A).alloc B).alloc C).alloc D).alloc E).heap[w.heap.size + 1 + 1]? = some C ∧ (((((w.alloc A).alloc B).alloc C).alloc D).alloc E).heap[w.heap.size + 1 + 1 + 1]? = some D ∧ (((((w.alloc A).alloc B).alloc C).alloc D).alloc E).heap[w.heap.size + 1 + 1 + 1 + 1]? = some E ∧
    (((((w.alloc A).alloc B).alloc C).alloc D).alloc E).heap.size = w.heap.size + 5 ∧ Below w.heap.size w (((((w.alloc A).alloc B).alloc C).alloc D).alloc E) := by
  obtain ⟨h0, h1, h2, h3, hs, hb⟩ := four_boxes w A B C D
  refine ⟨blk_alloc h0 _, blk_alloc h1 _, blk_alloc h2 _, blk_alloc h3 _, last_block0 _ _ _ (by rw [hs]), ?_, hb.alloc (by rw [hs]; omega) _⟩
  show (World.heap _ |>.push _).size = _
  rw [Array.size_push, hs]
theorem infoU : (Try.prog.info? 24).map (fun i => (i.zero, i.size, i.bytes)) = some (some (.int .u32 0), 1, 4) := by kernel_rfl
/-- what the comparing loop leans on -/
structure MsAt (w wr : World) (G D : Nat) (a : Option Addr) (c : Nat) (s : SqS) (ys : List Int) : Prop where
  got : wr.cell? ⟨G, 0, none⟩ = some (.slice a ys.length c)
  row : ∀ j x, ys[j]? = some x → ∃ g, a = some ⟨g, 0, none⟩ ∧ wr.cell? ⟨g, j, none⟩ = some (.int .u32 x)
  doc : RkAt wr (w.heap.size + 1) s
  ret : wr.heap[w.heap.size + 1 + 1]? = some (.cells #[.bool false] 4 (0, 0))
  dfr : wr.heap[D]? = some (.deferred (some []))
  bel : Below w.heap.size w wr
theorem MsAt.drew {w wr : World} {G D : Nat} {a : Option Addr} {c : Nat} {s : SqS} {ys : List Int} (h : MsAt w wr G D a c s ys) (n : Nat) : MsAt w (wr.drewN n) G D a c s ys :=
  ⟨h.got, h.row, h.doc, h.ret, h.dfr, below_drewN h.bel n⟩
theorem row_cells {W : World} {base : Nat} {e : TypeId} {a : Option Addr} {c : Nat} {ys : List Int} (h : W.ownsRow base e 1 (.slice a ys.length c) ys.length (ys.map (Value.int .u32))) :
    ∀ j x, ys[j]? = some x → ∃ g, a = some ⟨g, 0, none⟩ ∧ W.cell? ⟨g, j, none⟩ = some (.int .u32 x) := by
  intro j x hj
  have hjl : j < ys.length := (List.getElem?_eq_some_iff.1 hj).1
  rcases h.2 with ⟨h1, h2⟩ | ⟨g, cap, cur, h1, _, h3, _, _, _, h7⟩
  · omega
  · injection h1 with h1
    refine ⟨g, h1, ?_⟩
    rw [cell_of_block h3]
    have h8 : (cur.toList.take (ys.length * 1))[j]? = some (.int .u32 x) := by rw [h7, List.getElem?_map, hj]; rfl
    rw [List.getElem?_take, if_pos (by omega)] at h8
    rw [← Array.getElem?_toList]
    exact h8
/-- how many of the told ones the comparing loop has met -/
def msK (s : SqS) (j : Nat) : Nat := if s.any then (msL s j).length else 0
theorem msK_0 (s : SqS) : msK s (64 - 64) = 0 := by unfold msK; rw [msL_0]; split <;> rfl
theorem msK_hit (s : SqS) (k : Nat) (hk : k < 64) (ha : s.any = true) (h : s.m k = false) : msK s (64 - k) = msK s (64 - (k + 1)) + 1 := by
  unfold msK; rw [if_pos ha, if_pos ha, msL_hit s k hk h]; simp
theorem msK_miss (s : SqS) (k : Nat) (hk : k < 64) (h : s.any = false ∨ s.m k = true) : msK s (64 - k) = msK s (64 - (k + 1)) := by
  unfold msK
  rcases h with h | h
  · rw [h]; rfl
  · rw [msL_miss s k hk h]
theorem msL_pre (s : SqS) (j d : Nat) : msL s j <+: msL s (j + d) := by
  induction d with
  | zero => exact List.prefix_refl _
  | succ d ih => rw [← Nat.add_assoc]; simp only [msL]; exact ih.trans (List.prefix_append _ _)
theorem msK_at (s : SqS) (k : Nat) (hk : k < 64) (ha : s.any = true) (h : s.m k = false) : (msAll s)[msK s (64 - (k + 1))]? = some (msZ s.top k) := by
  have h1 := msL_pre s (64 - k) k
  rw [show 64 - k + k = 64 by omega] at h1
  unfold msAll msK
  rw [if_pos ha, if_pos ha]
  rw [msL_hit s k hk h] at h1
  obtain ⟨t, ht⟩ := h1
  rw [← ht]
  simp
theorem msK_end (s : SqS) : msK s (64 - 0) = (msAll s).length := by unfold msK msAll; split <;> simp
theorem msAll_len (s : SqS) : (msAll s).length ≤ 64 := by unfold msAll; split; exact msL_len s 64; exact Nat.zero_le _
theorem msK_le (s : SqS) (j : Nat) : msK s j ≤ j := by unfold msK; split; exact msL_len s j; exact Nat.zero_le _
attribute [local irreducible] msK
set_option maxRecDepth 100000 in
set_option maxHeartbeats 4000000 in
theorem q_missing (s : SqS) (w : World) :
    Calls Try.prog 12 #[.agg (sqA s), .agg (rkA s)] w fun e w' => e = .returned (.bool true) ∧ Below w.heap.size w w' := by
  obtain ⟨i0, hi, hz0, hz1, hz2⟩ := info_parts infoU
  have hfn := fun (W : World) (fn : Fn) (fi ca : Array Value) => run_eql_func_nil (P := Try.prog) W 48 fn fi ca Try.underlying48
  refine (callsIn_wide (n := 3)).1 ?_
  refine callsIn_of_wp_marks Try.func12 rfl trivial ?_ rfl
  simp only [Try.ntmps12, List.size_toArray, List.length_cons, List.length_nil, Nat.reduceAdd, Nat.reduceSub, Array.replicate_succ, Array.replicate_zero, List.push_toArray, List.append_toArray, List.nil_append, List.cons_append]
  gi_wp2
  refine ⟨trivial, ?_⟩
  refine (callsIn_wide.2 (s_missing _ _)).mono ?_
  rintro e w' ⟨rfl, rfl⟩
  gi_wp2
  obtain ⟨b0, b1, b2, b3, b4, hsz, hB⟩ := five_boxes w (.cells (sqA s) 27) (.cells (rkA s) 30) (.cells #[.bool false] 4) (.cells #[.pointer (some ⟨w.heap.size, 0, none⟩)] 44) (.cells #[.slice none 0 0] 22)
  generalize World.alloc (World.alloc (World.alloc (World.alloc (World.alloc w _) _) _) _) _ = Wm at *
  obtain ⟨G, hG⟩ : ∃ G, w.heap.size + 1 + 1 + 1 + 1 = G := ⟨_, rfl⟩
  rw [hG] at b4 ⊢
  have hGs : Wm.heap.size = G + 1 := by omega
  have hw3 : w.heap.size + 1 + 1 + 1 < G := by omega
  have b0h := Lib.hid b0
  have b1h := Lib.hid b1
  have b2h := Lib.hid b2
  have bG : Boxed Wm G 22 (.slice none 0 0) := b4
  have hBh := Lib.hid hB
  clear b0 b1 b2 b4 hB hfn
  have hstops := s_missing_stops Fence.wide 2 trivial rfl (by omega) (w.heap.size + 1 + 1 + 1) w.heap.size G s Wm hw3 (by omega) (by omega) (cell_of_one b3) b0h.out
  clear b3
  refine wpIn_rangeFunc_ownG rfl (by omega) (gf := 20) (lb := #[.pointer (some ⟨w.heap.size + 1 + 1 + 1, 0, none⟩)]) rfl trivial (enters_of Try.func20 (by kernel_rfl) rfl)
    hstops belowK_t (belowK_b (by omega)) (Below.refl _ _) (fun _ => rfl)
    (fun pre W => (∃ v, Boxed W G 22 v ∧ W.ownsRow G 24 1 v pre.length (pre.map (Value.int .u32)) ∧ (∃ a c, v = .slice a pre.length c)) ∧ Below G Wm W)
    (fun _ _ _ => False)
    (OwnFrom.and (Own.from (holdsRow_own G G 22 24 1 (fun pre : List Int => pre.length) (fun pre => pre.map (Value.int .u32)) (fun pre v => ∃ a c, v = .slice a pre.length c)) _) (ownFrom_below (by omega) (by omega)))
    (fun _ _ _ _ _ hs _ _ => hs)
    ⟨⟨_, bG, World.ownsRow_nil _ _ _ _, none, 0, rfl⟩, Below.refl _ _⟩
    (fun x => { tmps := #[.agg (sqA s), .agg (rkA s), .pointer (some ⟨w.heap.size, 0, none⟩), .pointer (some ⟨w.heap.size + 1, 0, none⟩), .pointer (some ⟨w.heap.size + 1 + 1, 0, none⟩), .func (.func 20) #[] #[.pointer (some ⟨w.heap.size + 1 + 1 + 1, 0, none⟩)], .pointer (some ⟨G, 0, none⟩), .int .u32 x, undef, undef, .func (.func 20) #[] #[.pointer (some ⟨w.heap.size + 1 + 1 + 1, 0, none⟩)], .func (.func 20) #[] #[.pointer (some ⟨w.heap.size + 1 + 1 + 1, 0, none⟩)], .bool false, .func (.func 20) #[] #[.pointer (some ⟨w.heap.size + 1 + 1 + 1, 0, none⟩)], .int .u32 x, undef, undef, undef, undef, undef, undef, undef, undef, undef, undef, undef, undef, undef, undef, undef, undef, undef, undef, undef, undef, undef, undef, undef, undef, undef, undef, undef, undef, undef, undef, undef, undef, undef, undef, undef, undef, undef, undef, undef, undef, undef, undef], defers := [] }) ?assign ?body ?done ?stop
  case assign =>
    intro l x W K hK
    gi_wp2
    exact hK
  case body =>
    rintro l pre x W ⟨⟨v, hv, hrow, a, c, rfl⟩, hB⟩ hlt
    have hc := hv.cell
    have hf := hv.frozen
    have hl : (pre.length : Int) < 64 := by omega
    gi_wp2_with (gi_at_builtin; refine wpListIn_append_own _ rfl _ _ 22 rfl G 24 i0 (.int .u32 0) 1 4 Try.underlying22 hi hz0 hz1 hz2 rfl (by decide) _ _ _ rfl (hrow.alloc _) ⟨W.heap.size, 0, none⟩ 1 1 [.int .u32 x] rfl rfl (cell_one_new _ _ _) (by simp [Value.oneCell']) (by unfold maxLen; omega) (by omega) (by have := hB.size; simp; omega) ?_; intro v' w1 hown' hgrow _; obtain ⟨g', cap', rfl⟩ := ownsRow_succ hown'; obtain ⟨hv1, hv2, hr2, hk2, hb2⟩ := hv.appended (by decide) hrow (by have := hB.size; omega) (Nat.le_refl _) hown' hgrow; have hc1 := hv1.cell; have hf1 := hv1.frozen)
    exact ⟨hk2.from _, hb2, ⟨_, hv2, by simpa using hr2, _, _, by rw [List.length_append]; rfl⟩, hB.trans hb2⟩
  case done =>
    rintro D ys W hD rfl ⟨⟨v, hv, hrow, a, c, rfl⟩, hB⟩ hK
    gi_wp2
    refine wpIn_wide.2 ?_
    have hms : Hid (MsAt w W G D a c s (msAll s)) := hide ⟨hv.cell, row_cells hrow, by unfold RkAt; rw [hB.block _ (by omega)]; exact b1h.out, by rw [hB.block _ (by omega)]; exact b2h.out, hK, hBh.out.trans (hB.mono (by omega))⟩
    clear hv hrow hB hK
    go_loopw [8, 9] (fun v8 v9 wr => ∃ r : Nat, r ≤ 64 ∧ v9 = .int .i64 ((r : Int) - 1) ∧ v8 = .int .i64 (msK s (64 - r) : Nat) ∧ Hid (MsAt w wr G D a c s (msAll s))) (fun _ v9 _ => (intOf v9 + 1).toNat)
    case atStart => exact ⟨64, Nat.le_refl _, rfl, by rw [msK_0]; rfl, hms⟩
    case round =>
      obtain ⟨r, hr, rfl, rfl, hM⟩ := hrel
      clear hms
      have hkle := msK_le s (64 - r)
      have cG := hM.out.got
      have cA : wr.cell? ⟨w.heap.size + 1, 0, none⟩ = some (.bool s.any) := (cell_of_block hM.out.doc).trans (rkA_0 _)
      have cT : wr.cell? ⟨w.heap.size + 1, 1, none⟩ = some (.int .u32 s.top) := (cell_of_block hM.out.doc).trans (rkA_1 _)
      rcases r with _ | k
      · have cR : wr.cell? ⟨w.heap.size + 1 + 1, 0, none⟩ = some (.bool false) := cell_of_one hM.out.ret
        have fR : wr.frozen? ⟨w.heap.size + 1 + 1, 0, none⟩ = false := frozen_of_row _ _ _ _ _ hM.out.ret
        have hLn := msAll_len s
        rw [msK_end s]
        have hd : ((msAll s).length : Int) ≤ 64 := by omega
        generalize (msAll s).length = L at *
        have hbel := Lib.hid hM.out.bel
        have hret := Lib.hid hM.out.ret
        have hdfr := Lib.hid hM.out.dfr
        go_wp2_with fail
        gi_wp2
        have hDw : w.heap.size + 5 ≤ D := by omega
        have hK2 : (wr.setCell ⟨w.heap.size + 1 + 1, 0, none⟩ (.bool true)).heap[D]? = some (.deferred (some [])) := (heap_setCell_other wr ⟨w.heap.size + 1 + 1, 0, none⟩ D _ (by show D ≠ w.heap.size + 1 + 1; omega)).trans hdfr.out
        have hR2 : (wr.setCell ⟨w.heap.size + 1 + 1, 0, none⟩ (.bool true)).heap[w.heap.size + 1 + 1]? = some (.cells #[.bool true] 4 (0, 0)) := blk_set hret.out 0 _
        have hb2 : Below w.heap.size w (wr.setCell ⟨w.heap.size + 1 + 1, 0, none⟩ (.bool true)) := hbel.out.setCell (p := ⟨w.heap.size + 1 + 1, 0, none⟩) (by show _ ≤ w.heap.size + 1 + 1; omega) _
        generalize World.setCell wr _ _ = V at *
        have hc5 := cell_kept (cell_of_one hR2) (grownBy_putObj' _ D (.deferred none)) (fun r e => by cases e; exact ⟨_, hK2, rfl⟩)
        refine ⟨by simp, .inl ⟨_, _, rfl, run_takeDeferred hK2, ?_⟩⟩
        refine ⟨.bool true, ?_, rfl, hb2.trans (belowK_b (w := w) (Nat.le_refl _) V D _ _ (by omega) hK2 rfl rfl)⟩
        simp [results, Try.f12, go_sem, hc5]
      · rw [show ((k + 1 : Nat) : Int) - 1 = (k : Int) by omega]
        have hk64 : (k : Int) < 64 := by omega
        have cM : wr.cell? ⟨w.heap.size + 1, 2 + k, none⟩ = some (.bool (s.m k)) := (cell_of_block hM.out.doc).trans (rkA_m s k (by omega))
        cases ha : s.any
        · have hnx := Lib.hid (msK_miss s k (by omega) (.inl ha))
          rw [ha] at cA
          clear ha
          go_wp2_with fail
          go_roundw
          case rel => exact ⟨k, by omega, rfl, by rw [hnx.out], hM⟩
          case measure => simp [intOf]
        · rw [ha] at cA
          cases hm : s.m k
          · have hnx := Lib.hid (msK_hit s k (by omega) ha hm)
            rw [hm] at cM
            have hat := msK_at s k (by omega) ha hm
            obtain ⟨g, rfl, hg⟩ := hM.out.row _ _ hat
            have hlt : msK s (64 - (k + 1)) < (msAll s).length := (List.getElem?_eq_some_iff.1 hat).1
            unfold msZ at hg
            clear hat ha hm
            generalize msK s (64 - (k + 1)) = q at *
            have hLn := msAll_len s
            generalize (msAll s).length = L at *
            have hL : (L : Int) ≤ 64 := by omega
            have hd : decide ((L : Int) ≤ (q : Int)) = false := by simp; omega
            have hd2 : decide (L ≤ q) = false := by simp; omega
            go_upto_region 15 with (fail)
            go_quiet (fail)
            go_wp2_with fail
            go_roundw
            case rel => exact ⟨k, by omega, rfl, by rw [hnx.out]; go_num, hide (hM.out.drew _)⟩
            case measure => simp [intOf]
          · have hnx := Lib.hid (msK_miss s k (by omega) (.inr hm))
            rw [hm] at cM
            clear ha hm
            go_wp2_with fail
            go_roundw
            case rel => exact ⟨k, by omega, rfl, by rw [hnx.out], hM⟩
            case measure => simp [intOf]
  case stop =>
    rintro D c pre W _ _ h _
    exact h.elim
end Go.Proofs.Ytickioeepicgcaa
