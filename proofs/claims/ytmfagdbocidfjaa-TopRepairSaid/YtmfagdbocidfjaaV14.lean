import Derived.Test.YtmfagdbocidfjaaV13
/- The contracts of the document's swapped, Same, of the law's ref and none. Conditions: what the slices read as. -/
namespace Go.Proofs.Ytmfagdbocidfjaa
open Go.RowKit
set_option maxRecDepth 100000 in
theorem infoInt : (Try.prog.info? 3).map (fun i => (i.zero, i.size, i.bytes)) = some (some (.int .i64 0), 1, 8) := by kernel_rfl
set_option maxRecDepth 100000 in
/-- no byte lies in a matrix's box -/
theorem no_u8 (j : Nat) (x : Int) (h : (#[.int .i64 0, .int .i64 0, .slice none 0 0] : Array Value)[j]? = some (.int .u8 x)) : False := by
  rcases j with _ | _ | _ | j <;> simp at h
/-- where row r of the swapped one lies -/
def swJ (i k r : Nat) : Nat := if r = i then k else if r = k then i else r
set_option maxRecDepth 100000 in
theorem pk_sw (F : Nat → Nat → Nat) (i k r c : Nat) : pkF F (swJ i k) r c = swF F i k r c := by unfold pkF swJ swF; rfl
set_option maxRecDepth 100000 in
theorem swJ_lt (i k R r : Nat) (hi : i < R) (hk : k < R) (hr : r < R) : swJ i k r < R := by unfold swJ; split; exact hk; split; exact hi; exact hr
attribute [local irreducible] gexp gtbl glog rmul rinv rpow zexp mixF blk wLoad wLoadRes loadAns wStore wStoreRes storeAns Plain flF BRow MRow elK elF IsGf ivS gjS pvF clF swF OwnZ zfl
attribute [local go_sem ↓] ld_m0 sto_m0
attribute [local go_sem] ld_m sto_m loadAns_some storeAns_some mx_size mx_plain blk_alloc_if blk_setRow_if blk_drew_at blk_drewN_at rowPut_some
end Go.Proofs.Ytmfagdbocidfjaa
