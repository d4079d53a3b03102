import Derived.Test.YtmfagdbocidfjaaV19
/- The contract of the document's Identity. -/
namespace Go.Proofs.Ytmfagdbocidfjaa
open Go.RowKit
set_option maxRecDepth 100000 in
theorem made_box (w : World) (A B : Obj) (n : Nat) (D D0 : Array Value) (T : TypeId) (hA : A = .cells (madeCells #[.int .u8 0] n) 5) (hB : B = .cells D0 T) (X : World) (hX : X = ((w.alloc A).alloc B).setRow (w.heap.size + 1) D) :
    BRow X w.heap.size n (fun _ => 0) ∧ X.heap[w.heap.size + 1]? = some (.cells D T (0, 0)) ∧ X.heap.size = w.heap.size + 2 ∧ Below w.heap.size w X := by
  subst hA hB hX
  obtain ⟨h0, h1, h2, h3⟩ := two_allocs w (.cells (madeCells #[.int .u8 0] n) 5) (.cells D0 T)
  have hb := brow_made w n
  refine ⟨?_, setRow_heap _ _ _ _ _ _ h1, by rw [size_setRow]; exact h2, below_setRow h3 (by omega) _⟩
  have e1 : (((w.alloc (.cells (madeCells #[.int .u8 0] n) 5)).alloc (.cells D0 T)).setRow (w.heap.size + 1) D).heap[w.heap.size]? = (w.alloc (.cells (madeCells #[.int .u8 0] n) 5)).heap[w.heap.size]? := (setRow_other _ _ _ _ (by omega)).trans (h0.trans (last_block0 w _ _ rfl).symm)
  exact hb.stay e1
attribute [local irreducible] gexp gtbl glog rmul rinv rpow zexp mixF blk wLoad wLoadRes loadAns wStore wStoreRes storeAns Plain flF BRow
attribute [local go_sem ↓] ld_m0 sto_m0
attribute [local go_sem] ld_m sto_m loadAns_some storeAns_some mx_size mx_plain blk_alloc_if blk_setRow_if blk_drew_at blk_drewN_at rowPut_some blk_setCell_if cellPut_some
end Go.Proofs.Ytmfagdbocidfjaa

/- The contract of the document's Powers. -/
namespace Go.Proofs.Ytmfagdbocidfjaa
open Go.RowKit
attribute [local irreducible] gexp gtbl glog rmul rinv rpow zexp mixF blk wLoad wLoadRes loadAns wStore wStoreRes storeAns Plain flF BRow MRow elK elF IsGf ivS gjS pvF clF swF OwnZ zfl
attribute [local go_sem ↓] ld_m0 sto_m0
attribute [local go_sem] ld_m sto_m loadAns_some storeAns_some mx_size mx_plain blk_alloc_if blk_setRow_if blk_drew_at blk_drewN_at rowPut_some
end Go.Proofs.Ytmfagdbocidfjaa
