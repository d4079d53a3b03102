import Derived.Test.YtipfoclmdbbjiaaU08
/- The contract of package matrix's Rank. Conditions: what the slice reads as. -/
namespace Go.Proofs.Ytipfoclmdbbjiaa
open Go.RowKit
set_option maxRecDepth 100000 in
theorem gj_yes1 (F : Nat → Nat → Nat) (R c : Nat) (h1 : (gjS F R c).1 < R) (h2 : pvF (gjS F R c).2 c R (gjS F R c).1 < R) : (gjS F R (c + 1)).1 = (gjS F R c).1 + 1 ∧ (gjS F R (c + 1)).2 = clF (swF (gjS F R c).2 (gjS F R c).1 (pvF (gjS F R c).2 c R (gjS F R c).1)) (swF (gjS F R c).2 (gjS F R c).1 (pvF (gjS F R c).2 c R (gjS F R c).1)) (gjS F R c).1 c := by rw [gj_yes F R c h1 h2]; exact ⟨rfl, rfl⟩
/-- what Rank holds ahead of a column -/
structure RkAt (wr W : World) (p g h R C cap c : Nat) (bm bo : Nat) (F : Nat → Nat → Nat) : Prop where
  m : MRow wr g R C (gjS F R c).2
  e : MRow wr h R 0 (fun _ _ => 0)
  p : IsGf wr p
  bm : blk wr bm = some (.cells #[.int .i64 (R : Nat), .int .i64 (C : Nat), .slice (some ⟨g, 0, none⟩) (R * C) cap] 106 (0, 0))
  bo : blk wr bo = some (.cells #[.int .i64 (R : Nat), .int .i64 0, .slice (some ⟨h, 0, none⟩) 0 0] 106 (0, 0))
  t : Two W wr g h
set_option maxRecDepth 100000 in
theorem RkAt.below {wr w2 W : World} {p g h R C cap c bm bo : Nat} {F : Nat → Nat → Nat} (k : RkAt wr W p g h R C cap c bm bo F) (hb : Below wr.heap.size wr w2) : RkAt w2 W p g h R C cap c bm bo F :=
  ⟨k.m.below hb k.m.lt, k.e.below hb k.e.lt, k.p.below hb k.p.lt, (blk_below hb (blk_lt k.bm)).trans k.bm, (blk_below hb (blk_lt k.bo)).trans k.bo, k.t.below hb⟩
set_option maxRecDepth 100000 in
theorem el_none {w : World} {h R : Nat} {F G : Nat → Nat → Nat} (k : MRow w h R 0 F) : MRow w h R 0 G := k.congr (fun r c _ hc => absurd hc (by omega))
attribute [local irreducible] gexp gtbl glog rmul rinv rpow zexp mixF blk wLoad wLoadRes loadAns wStore wStoreRes storeAns Plain flF BRow MRow elK elF IsGf ivS gjS pvF clF swF
attribute [local go_sem ↓] ld_m0 sto_m0
attribute [local go_sem] ld_m sto_m loadAns_some storeAns_some mx_size mx_plain blk_alloc_if blk_setRow_if blk_drew_at blk_drewN_at rowPut_some blk_setCell_if cellPut_some
set_option maxRecDepth 100000 in
theorem new_zero (R : Nat) (hR : R ≤ 255) (w : World) : Calls Try.prog 53 #[.int .i64 (R : Nat), .int .i64 0] w
    (fun e w' => ∃ g, e = .returned (.tuple #[.agg #[.int .i64 (R : Nat), .int .i64 0, .slice (some ⟨g, 0, none⟩) 0 0], .int .i64 0]) ∧ w.heap.size ≤ g ∧ MRow w' g R 0 (fun _ _ => 0) ∧ Below w.heap.size w w') := m_new R 0 w hR (by omega)
end Go.Proofs.Ytipfoclmdbbjiaa

/- The contracts of the document's Pick, swapped. Conditions: what the slices read as. -/
namespace Go.Proofs.Ytipfoclmdbbjiaa
open Go.RowKit
/-- a matrix comes back -/
def XPost (W : World) (R C : Nat) (F : Nat → Nat → Nat) (e : Ending) (W' : World) : Prop :=
  ∃ s cap, e = .returned (.agg #[.int .i64 (R : Nat), .int .i64 (C : Nat), .slice s (R * C) cap]) ∧ MAt W' s R C F ∧ (s = none → R * C = 0 ∧ cap = 0) ∧ R * C ≤ cap ∧ Below W.heap.size W W'
set_option maxRecDepth 100000 in
theorem XPost.congr {W : World} {R C : Nat} {F F' : Nat → Nat → Nat} {e : Ending} {W' : World} (h : XPost W R C F e W') (hF : ∀ r c, r < R → c < C → F r c = F' r c) : XPost W R C F' e W' := by
  obtain ⟨s, cap, he, hm, hr⟩ := h
  refine ⟨s, cap, he, fun i k hi hk => ?_, hr⟩
  rw [← hF i k hi hk]
  exact hm i k hi hk
def zfl (C : Nat) (G : Nat → Nat → Nat) (j : Nat) : Int := (flF C G j : Nat)
set_option maxRecDepth 100000 in
theorem zfl_at (C : Nat) (G : Nat → Nat → Nat) (i k : Nat) (hk : k < C) : ((G i k : Nat) : Int) = zfl C G (i * C + k) := by unfold zfl; rw [fl_at C G i k hk]
set_option maxRecDepth 100000 in
theorem mat_of_z {w : World} {s : Option Addr} {R C : Nat} {G : Nat → Nat → Nat} (h : ZAt w .u8 s (R * C) (zfl C G)) : MAt w s R C G := fun i k hi hk => by
  obtain ⟨b, off, hs, hc⟩ := h (i * C + k) (idx_lt hi hk)
  rw [← zfl_at C G i k hk] at hc
  exact ⟨b, off, hs, hc⟩
/-- a box that is read, and one that is filled: cells -/
def bxA (R C : Nat) (v : Value) : Array Value := #[.int .i64 (R : Nat), .int .i64 (C : Nat), v]
/-- rows of a matrix, picked -/
def pkF (F : Nat → Nat → Nat) (J : Nat → Nat) (i k : Nat) : Nat := F (J i) k
set_option maxRecDepth 100000 in
theorem infoI8 : (Try.prog.info? 5).map (fun i => (i.zero, i.size, i.bytes)) = some (some (.int .u8 0), 1, 1) := info8
attribute [local irreducible] gexp gtbl glog rmul rinv rpow zexp mixF blk wLoad wLoadRes loadAns wStore wStoreRes storeAns Plain flF BRow MRow elK elF IsGf ivS gjS pvF clF swF OwnZ zfl
attribute [local go_sem ↓] ld_m0 sto_m0
attribute [local go_sem] ld_m sto_m loadAns_some storeAns_some mx_size mx_plain blk_alloc_if blk_setRow_if blk_drew_at blk_drewN_at rowPut_some
end Go.Proofs.Ytipfoclmdbbjiaa
