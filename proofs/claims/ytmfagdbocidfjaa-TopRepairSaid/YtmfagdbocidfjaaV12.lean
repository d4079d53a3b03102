import Derived.Test.YtmfagdbocidfjaaV11
/- The contract of package matrix's Rank. Conditions: what the slice reads as. -/
namespace Go.Proofs.Ytmfagdbocidfjaa
open Go.RowKit
set_option maxRecDepth 100000 in
theorem gj_yes1 (F : Nat → Nat → Nat) (R c : Nat) (h1 : (gjS F R c).1 < R) (h2 : pvF (gjS F R c).2 c R (gjS F R c).1 < R) : (gjS F R (c + 1)).1 = (gjS F R c).1 + 1 ∧ (gjS F R (c + 1)).2 = clF (swF (gjS F R c).2 (gjS F R c).1 (pvF (gjS F R c).2 c R (gjS F R c).1)) (swF (gjS F R c).2 (gjS F R c).1 (pvF (gjS F R c).2 c R (gjS F R c).1)) (gjS F R c).1 c := by rw [gj_yes F R c h1 h2]; exact ⟨rfl, rfl⟩
/-- what Rank holds ahead of a column -/
structure RkAt (wr W : World) (p g h R C cap c : Nat) (bm bo : Nat) (F : Nat → Nat → Nat) : Prop where
  m : MRow wr g R C (gjS F R c).2
  e : MRow wr h R 0 (fun _ _ => 0)
  p : IsGf wr p
  bm : blk wr bm = some (.cells #[.int .i64 (R : Nat), .int .i64 (C : Nat), .slice (some ⟨g, 0, none⟩) (R * C) cap] 188 (0, 0))
  bo : blk wr bo = some (.cells #[.int .i64 (R : Nat), .int .i64 0, .slice (some ⟨h, 0, none⟩) 0 0] 188 (0, 0))
  t : Two W wr g h
set_option maxRecDepth 100000 in
theorem RkAt.below {wr w2 W : World} {p g h R C cap c bm bo : Nat} {F : Nat → Nat → Nat} (k : RkAt wr W p g h R C cap c bm bo F) (hb : Below wr.heap.size wr w2) : RkAt w2 W p g h R C cap c bm bo F :=
  ⟨k.m.below hb k.m.lt, k.e.below hb k.e.lt, k.p.below hb k.p.lt, (blk_below hb (blk_lt k.bm)).trans k.bm, (blk_below hb (blk_lt k.bo)).trans k.bo, k.t.below hb⟩
set_option maxRecDepth 100000 in
theorem el_none {w : World} {h R : Nat} {F G : Nat → Nat → Nat} (k : MRow w h R 0 F) : MRow w h R 0 G := k.congr (fun r c _ hc => absurd hc (by omega))
attribute [local irreducible] gexp gtbl glog rmul rinv rpow zexp mixF blk wLoad wLoadRes loadAns wStore wStoreRes storeAns Plain flF BRow MRow elK elF IsGf ivS gjS pvF clF swF
attribute [local go_sem ↓] ld_m0 sto_m0
attribute [local go_sem] ld_m sto_m loadAns_some storeAns_some mx_size mx_plain blk_alloc_if blk_setRow_if blk_drew_at blk_drewN_at rowPut_some blk_setCell_if cellPut_some
set_option maxRecDepth 100000 in
theorem new_zero (R : Nat) (hR : R ≤ 255) (w : World) : Calls Try.prog 115 #[.int .i64 (R : Nat), .int .i64 0] w
    (fun e w' => ∃ g, e = .returned (.tuple #[.agg #[.int .i64 (R : Nat), .int .i64 0, .slice (some ⟨g, 0, none⟩) 0 0], .int .i64 0]) ∧ w.heap.size ≤ g ∧ MRow w' g R 0 (fun _ _ => 0) ∧ Below w.heap.size w w') := m_new R 0 w hR (by omega)
end Go.Proofs.Ytmfagdbocidfjaa
