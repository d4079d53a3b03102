import Derived.Test.YtmfagdbocidfjaaV12
/- The contracts of the document's Pick, swapped. Conditions: what the slices read as. -/
namespace Go.Proofs.Ytmfagdbocidfjaa
open Go.RowKit
/-- a matrix comes back -/
def XPost (W : World) (R C : Nat) (F : Nat → Nat → Nat) (e : Ending) (W' : World) : Prop :=
  ∃ s cap, e = .returned (.agg #[.int .i64 (R : Nat), .int .i64 (C : Nat), .slice s (R * C) cap]) ∧ MAt W' s R C F ∧ (s = none → R * C = 0 ∧ cap = 0) ∧ R * C ≤ cap ∧ Below W.heap.size W W'
set_option maxRecDepth 100000 in
theorem XPost.congr {W : World} {R C : Nat} {F F' : Nat → Nat → Nat} {e : Ending} {W' : World} (h : XPost W R C F e W') (hF : ∀ r c, r < R → c < C → F r c = F' r c) : XPost W R C F' e W' := by
  obtain ⟨s, cap, he, hm, hr⟩ := h
  refine ⟨s, cap, he, fun i k hi hk => ?_, hr⟩
  rw [← hF i k hi hk]
  exact hm i k hi hk
def zfl (C : Nat) (G : Nat → Nat → Nat) (j : Nat) : Int := (flF C G j : Nat)
set_option maxRecDepth 100000 in
theorem zfl_at (C : Nat) (G : Nat → Nat → Nat) (i k : Nat) (hk : k < C) : ((G i k : Nat) : Int) = zfl C G (i * C + k) := by unfold zfl; rw [fl_at C G i k hk]
set_option maxRecDepth 100000 in
theorem mat_of_z {w : World} {s : Option Addr} {R C : Nat} {G : Nat → Nat → Nat} (h : ZAt w .u8 s (R * C) (zfl C G)) : MAt w s R C G := fun i k hi hk => by
  obtain ⟨b, off, hs, hc⟩ := h (i * C + k) (idx_lt hi hk)
  rw [← zfl_at C G i k hk] at hc
  exact ⟨b, off, hs, hc⟩
/-- a box that is read, and one that is filled: cells -/
def bxA (R C : Nat) (v : Value) : Array Value := #[.int .i64 (R : Nat), .int .i64 (C : Nat), v]
/-- rows of a matrix, picked -/
def pkF (F : Nat → Nat → Nat) (J : Nat → Nat) (i k : Nat) : Nat := F (J i) k
set_option maxRecDepth 100000 in
theorem infoI8 : (Try.prog.info? 5).map (fun i => (i.zero, i.size, i.bytes)) = some (some (.int .u8 0), 1, 1) := info8
attribute [local irreducible] gexp gtbl glog rmul rinv rpow zexp mixF blk wLoad wLoadRes loadAns wStore wStoreRes storeAns Plain flF BRow MRow elK elF IsGf ivS gjS pvF clF swF OwnZ zfl
attribute [local go_sem ↓] ld_m0 sto_m0
attribute [local go_sem] ld_m sto_m loadAns_some storeAns_some mx_size mx_plain blk_alloc_if blk_setRow_if blk_drew_at blk_drewN_at rowPut_some
end Go.Proofs.Ytmfagdbocidfjaa
