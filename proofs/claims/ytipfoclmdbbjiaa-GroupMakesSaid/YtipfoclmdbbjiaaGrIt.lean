import Derived.Test.YtipfoclmdbbjiaaGrDg
import Derived.Test.YtipfoclmdbbjiaaGrRnd
import Derived.Sort.CutIn
/- The contract of a group's All: its iterator hands over the datagrams of the shards. Conditions: what the rows read as. -/
namespace Go.Proofs.Ytipfoclmdbbjiaa
open Go.RowKit Go.Shelf
attribute [local irreducible] gexp gtbl glog rmul rinv rpow zexp mixF blk wLoad wLoadRes loadAns wStore wStoreRes storeAns Plain flF MRow MAt IsGf ivS rsF mlF RowsAt paF OwnS SlR dtF inV grD dgK
attribute [local go_sem] Oper.semAt_some
attribute [local go_sem ↓] ld_d0 sto_d0 ld_g0 sto_g0 ld_w0 sto_w0
attribute [local go_sem] ld_d sto_d ld_g sto_g ld_w sto_w loadAns_some storeAns_some gg_size gg_plain dg_size dg_plain blk_alloc_if blk_setRow_if blk_drew_at blk_drewN_at rowPut_some blk_setCell_if cellPut_some
set_option maxRecDepth 100000 in
set_option maxHeartbeats 1000000 in
theorem g_all (v : Array Value) (w : World) :
    Calls Try.prog 23 #[.agg v] w fun e w' => e = .returned (.func (.func 37) #[] #[.pointer (some ⟨w.heap.size, 0, none⟩)]) ∧ w.alloc (.cells v 48) = w' := by
  go_enter Try.func23, Try.ntmps23
  go_wp2
  go_ret
  exact ⟨rfl, rfl⟩
/-- what the iterator reads -/
structure ItAt (W : World) (n₀ Bn : Nat) (no fi : Int) (K m L sb so cap : Nat) (V : Nat → Nat → Nat) : Prop where
  box : W.heap[Bn]? = some (.cells #[.int .u32 no, .int .u32 fi, .int .i64 (K : Nat), .int .i64 (m : Nat), .slice (some ⟨sb, so, none⟩) L cap] 48 (0, 0))
  bn : Bn < n₀
  sbn : sb < n₀
  n0 : n₀ ≤ W.heap.size
  row : ∀ i, i < L → ∃ rg rc, rg < n₀ ∧ W.cell? ⟨sb, so + i, none⟩ = some (.slice (some ⟨rg, 0, none⟩) 2 rc) ∧ BRow W rg 2 (V i)
set_option maxRecDepth 100000 in
theorem ItAt.below {W W' : World} {n₀ Bn : Nat} {no fi : Int} {K m L sb so cap : Nat} {V : Nat → Nat → Nat} (h : ItAt W n₀ Bn no fi K m L sb so cap V) (hb : Below n₀ W W') : ItAt W' n₀ Bn no fi K m L sb so cap V :=
  ⟨(hb.block _ h.bn).trans h.box, h.bn, h.sbn, Nat.le_trans h.n0 hb.size, fun i hi => by
    obtain ⟨rg, rc, h1, h2, h3⟩ := h.row i hi
    exact ⟨rg, rc, h1, (hb.cell (p := ⟨sb, so + i, none⟩) h.sbn).trans h2, h3.below hb h1⟩⟩
set_option maxRecDepth 100000 in
set_option maxHeartbeats 4000000 in
theorem g_all1 (n l Bn n₀ n₁ : Nat) (no fi : Int) (K m L sb so cap : Nat) (V : Nat → Nat → Nat) (J : Nat → World → Prop) (hn : 1 ≤ n) (hL : L ≤ 1000)
    (hJ : ∀ k W W', J k W → Below W.heap.size W W' → J k W')
    (hY : ∀ (k : Nat) (x : Nat × Nat) W1, J k W1 → k < L → (n₁ ≤ x.1 ∧ BRow W1 x.1 2 (V k)) → YieldAt Fence.wide (n - 1) Try.prog l #[.int .i64 (k : Nat), .agg #[.int .i64 (dgK K k), .int .u32 0, .int .u32 0, .int .i64 0, .int .u32 0, .int .u32 no, .int .u32 fi, .int .i64 (K : Nat), .int .i64 (m : Nat), .int .i64 (k : Nat), .slice (some ⟨x.1, 0, none⟩) 2 x.2]] W1 fun e W' => e = .returned (.bool true) ∧ J (k + 1) W' ∧ Below n₀ W1 W')
    (W : World) (hn₁ : n₁ ≤ W.heap.size) (hA : ItAt W n₀ Bn no fi K m L sb so cap V) (h0 : J 0 W) :
    CallsIn Fence.wide n Try.prog 37 #[.func (.yield l) #[] #[], .pointer (some ⟨Bn, 0, none⟩)] W fun e W' => (∃ v, e = .returned v) ∧ J L W' := by
  have hAh := Lib.hid hA
  have c4 := (cell_of_block hA.box).trans (show #[.int .u32 no, .int .u32 fi, .int .i64 (K : Nat), .int .i64 (m : Nat), .slice (some ⟨sb, so, none⟩) L cap][4]? = some (Value.slice (some ⟨sb, so, none⟩) L cap) from rfl)
  clear hA
  refine callsIn_of_wp Try.func37 rfl trivial ?_ rfl
  simp only [Try.ntmps37, List.size_toArray, List.length_cons, List.length_nil, Nat.reduceAdd, Nat.reduceSub, Array.replicate_succ, Array.replicate_zero, List.push_toArray, List.append_toArray, List.nil_append, List.cons_append]
  gi_wp2
  gi_loopw [9] (fun v9 wr => ∃ k : Nat, k ≤ L ∧ v9 = .int .i64 (k : Nat) ∧ n₁ ≤ wr.heap.size ∧ Hid (ItAt wr n₀ Bn no fi K m L sb so cap V) ∧ J k wr) (fun v9 _ => L - (intOf v9).toNat)
  case atStart => exact ⟨0, by omega, rfl, hn₁, hAh, h0⟩
  case round =>
    obtain ⟨k, hk, rfl, hn1, hAr, hJr⟩ := hrel
    clear hAh h0 c4
    by_cases hkL : k < L
    · have i1 : (k : Int) < (L : Int) := by omega
      obtain ⟨rg, rc, hrg, hcell, hrow⟩ := hAr.out.row k hkL
      have hbx := blk_of hAr.out.box
      have kdg := Lib.hid (g_datagram no fi K m k L sb so cap rg rc (V k) wr hkL hcell hrow)
      have hbn := hAr.out.bn
      have hnw := hAr.out.n0
      clear hcell hrow
      gi_wp2
      refine ⟨trivial, ?_⟩
      refine (callsIn_wide.2 kdg.out).mono ?_
      rintro e w2 ⟨g, c, rfl, hg, hr2, hb2⟩
      have hA2 := Lib.hid (hAr.out.below (hb2.mono hnw))
      have hJ2 := Lib.hid (hJ _ _ _ hJr hb2)
      have hr2h := Lib.hid hr2
      have hs2 := hb2.size
      clear kdg hbx hr2 hb2 hJr
      gi_upto_region 4 with (fail)
      obtain ⟨y0, y1, y2⟩ := boxed w2 #[.int .i64 0, .int .u32 0, .int .u32 0, .int .i64 0, .int .u32 0, .int .u32 0, .int .u32 0, .int .i64 0, .int .i64 0, .int .i64 0, .slice none 0 0] #[.int .i64 (dgK K k), .int .u32 0, .int .u32 0, .int .i64 0, .int .u32 0, .int .u32 no, .int .u32 fi, .int .i64 (K : Nat), .int .i64 (m : Nat), .int .i64 (k : Nat), .slice (some ⟨g, 0, none⟩) 2 c] 71
      have hlt2 := hr2h.out.lt
      have hr3 := hr2h.out.below y2 hlt2
      have hA3 := Lib.hid (hA2.out.below (y2.mono (by omega)))
      have hJ3 := hJ _ _ _ hJ2.out y2
      generalize World.setRow (World.alloc w2 _) _ _ = w3 at *
      obtain ⟨fn, tmps, assign, body, hy, hR⟩ := hY k (g, c) w3 hJ3 hkL ⟨by show _ ≤ g; omega, hr3⟩
      dsimp only at hy
      have b3 := blk_of y0
      have hs3 : w2.heap.size < w3.heap.size := by omega
      clear y0 y2 hr3 hJ3 hr2h hA2 hJ2
      gi_wp2
      refine hR.mono ?_
      rintro e w4 ⟨rfl, hJ4, hb4⟩
      have hA4 := Lib.hid (hA3.out.below hb4)
      have hs4 := hb4.size
      clear hb4 b3 hR hy
      gi_wp2
      go_roundw
      case rel => exact ⟨k + 1, by omega, by go_num, by omega, hA4, hJ4⟩
      case measure => simp [intOf]; omega
    · obtain rfl : k = L := by omega
      have i1 : decide ((k : Int) < (k : Int)) = false := by simp
      gi_wp2
      go_end0
      exact ⟨⟨_, rfl⟩, hJr⟩
end Go.Proofs.Ytipfoclmdbbjiaa
