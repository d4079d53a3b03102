import Derived.Test.YtipfoclmdbbjiaaGrSame
/- Same of groups; the law's ref. Conditions: what the rows read as. -/
namespace Go.Proofs.Ytipfoclmdbbjiaa
open Go.RowKit
set_option maxRecDepth 100000 in
theorem results_row1 {P : Program} {fn : Func} {p : Tmp} {ty : TypeId} (h : fn.results = #[.cell p ty]) (tmps : Array Value) (w : World) (g : Nat) (t : TypeId) (cs : Array Value) (fr : Nat × Nat) (d : TypeDesc)
    (hp : tmps.getD p undef = .pointer (some ⟨g, 0, none⟩)) (hg : w.heap[g]? = some (.cells cs t fr))
    (hu : P.underlying ty = some d) (hd : (match d with | .struct _ | .array _ _ => true | _ => false) = true) (hi : (P.info? ty).map (·.size) = some cs.size) :
    (results fn tmps).run P w = .ok (.agg cs) w := by
  have hp' : tmps[p]?.getD undef = .pointer (some ⟨g, 0, none⟩) := by simpa using hp
  simp [results, h, hp', asAddr, Sem.run_bind, run_loadVar_row w g t ty cs fr d hg hu hd hi]
attribute [local irreducible] By RowsAt blk wLoad wLoadRes loadAns wStore wStoreRes storeAns Plain
attribute [local go_sem ↓] ld_w0 sto_w0
attribute [local go_sem] ld_w sto_w loadAns_some storeAns_some gg_size gg_plain blk_alloc_if blk_setRow_if blk_drew_at blk_drewN_at rowPut_some blk_setCell_if cellPut_some
set_option maxRecDepth 100000 in
set_option maxHeartbeats 2000000 in
theorem r_same17 (no fi K m : Int) (L n : Nat) (s t : Option Addr) (cs ct : Nat) (V : Nat → Nat → Nat) (w : World) (hs : RowsAt w s L n V) (ht : RowsAt w t L n V) (h0 : 0 < n) (hL : L ≤ 1000000) :
    Calls Try.prog 14 #[.agg #[.int .u32 no, .int .u32 fi, .int .i64 K, .int .i64 m, .slice s L cs], .agg #[.int .u32 no, .int .u32 fi, .int .i64 K, .int .i64 m, .slice t L ct]] w (Ret w (.bool true)) := by
  obtain ⟨b0, b1, hsz, hB⟩ := two_allocs w (.cells #[.int .u32 no, .int .u32 fi, .int .i64 K, .int .i64 m, .slice s L cs] 44) (.cells #[.int .u32 no, .int .u32 fi, .int .i64 K, .int .i64 m, .slice t L ct] 44)
  have hBh := Lib.hid hB
  have ksm := Lib.hid (r_same06 L n s t cs ct V _ (hs.below hB) (ht.below hB) h0 hL)
  have hsz2 : w.heap.size ≤ (World.alloc (World.alloc w (.cells #[.int .u32 no, .int .u32 fi, .int .i64 K, .int .i64 m, .slice s L cs] 44)) (.cells #[.int .u32 no, .int .u32 fi, .int .i64 K, .int .i64 m, .slice t L ct] 44)).heap.size := by omega
  clear hs ht hB hsz
  go_enter Try.func14, Try.ntmps14
  go_upto_region 1 with (fail)
  generalize World.alloc (World.alloc w _) _ = X at *
  have x0 := (cell_of_block b0 (i := 0)).trans rfl
  have x1 := (cell_of_block b0 (i := 1)).trans rfl
  have x2 := (cell_of_block b0 (i := 2)).trans rfl
  have x3 := (cell_of_block b0 (i := 3)).trans rfl
  have x4 := (cell_of_block b0 (i := 4)).trans rfl
  have y0 := (cell_of_block b1 (i := 0)).trans rfl
  have y1 := (cell_of_block b1 (i := 1)).trans rfl
  have y2 := (cell_of_block b1 (i := 2)).trans rfl
  have y3 := (cell_of_block b1 (i := 3)).trans rfl
  have y4 := (cell_of_block b1 (i := 4)).trans rfl
  clear b0 b1
  go_wp2_with fail
  refine ksm.out.mono ?_
  rintro e W2 ⟨rfl, hb2⟩
  have hBf := Lib.hid (hBh.out.trans (hb2.mono hsz2))
  clear hb2 x0 x1 x2 x3 x4 y0 y1 y2 y3 y4
  go_wp2_with fail
  go_ret
  exact ⟨rfl, hBf.out⟩
set_option maxRecDepth 100000 in
set_option maxHeartbeats 2000000 in
theorem l_ref17 (no fi K m : Int) (L : Nat) (s : Option Addr) (cs : Nat) (w : World) :
    Calls Try.prog 15 #[.agg #[.int .u32 no, .int .u32 fi, .int .i64 K, .int .i64 m, .slice s L cs]] w (Ret w (.agg #[.int .u32 no, .int .u32 fi, .int .i64 K, .int .i64 m, .slice s L cs])) := by
  have hzg := zeroGW
  obtain ⟨b0, b1, hsz, hB⟩ := two_allocs w (.cells #[.int .u32 no, .int .u32 fi, .int .i64 K, .int .i64 m, .slice s L cs] 48) (.cells #[.int .u32 0, .int .u32 0, .int .i64 0, .int .i64 0, .slice none 0 0] 44)
  have hBh := Lib.hid hB
  clear hB hsz
  go_enter Try.func15, Try.ntmps15
  go_upto_region 1 with (fail)
  generalize World.alloc (World.alloc w _) _ = X at *
  have x0 := (cell_of_block b0 (i := 0)).trans rfl
  have x1 := (cell_of_block b0 (i := 1)).trans rfl
  have x2 := (cell_of_block b0 (i := 2)).trans rfl
  have x3 := (cell_of_block b0 (i := 3)).trans rfl
  have x4 := (cell_of_block b0 (i := 4)).trans rfl
  have b1h := Lib.hid b1
  have b1v := blk_of b1
  clear b0 b1
  go_wp2_with fail
  refine bodyPost_ret (v := .agg #[.int .u32 no, .int .u32 fi, .int .i64 K, .int .i64 m, .slice s L cs]) (results_row1 rfl _ _ (w.heap.size + 1) 44 _ (0, 0) _ rfl (setRow_heap _ _ _ _ _ _ b1h.out) Try.underlying44 rfl gw_info) rfl ⟨rfl, below_setRow hBh.out (by omega) _⟩
end Go.Proofs.Ytipfoclmdbbjiaa
