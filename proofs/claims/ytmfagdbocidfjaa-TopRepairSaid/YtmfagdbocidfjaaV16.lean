import Derived.Test.YtmfagdbocidfjaaV15
/- The contract of the document's Rank. Conditions: what the slice reads as. -/
namespace Go.Proofs.Ytmfagdbocidfjaa
open Go.RowKit
set_option maxRecDepth 100000 in
theorem no_u8' (r c : Int) (s : Option Addr) (n m j : Nat) (x : Int) (h : (#[.int .i64 r, .int .i64 c, .slice s n m] : Array Value)[j]? = some (.int .u8 x)) : False := by
  rcases j with _ | _ | _ | j <;> simp at h
set_option maxRecDepth 100000 in
theorem mat_setBox {w : World} {a : Option Addr} {R C b : Nat} {F : Nat → Nat → Nat} {r c : Int} {s : Option Addr} {n m : Nat} {T : TypeId} {fr : Nat × Nat} (h : MAt w a R C F) (hb : w.heap[b]? = some (.cells #[.int .i64 r, .int .i64 c, .slice s n m] T fr)) (D : Array Value) : MAt (w.setRow b D) a R C F := by
  intro i k hi hk
  obtain ⟨bb, off, hs, hcc⟩ := h i k hi hk
  refine ⟨bb, off, hs, ?_⟩
  have hbl : bb ≠ b := fun e => by
    subst e
    have h3 := cell_of_block (i := off + (i * C + k)) hb
    rw [h3] at hcc
    exact no_u8' _ _ _ _ _ _ _ hcc
  have h4 : (w.setRow b D).heap[bb]? = w.heap[bb]? := setRow_other _ _ _ _ hbl
  rw [World.cell?_of_block (a := ⟨bb, off + (i * C + k), none⟩) h4]
  exact hcc
set_option maxRecDepth 100000 in
theorem rf_le (F : Nat → Nat → Nat) (R c : Nat) : (rfS F R c).1 ≤ R := by
  induction c with
  | zero => rw [rf_zero]; exact Nat.zero_le _
  | succ c ih =>
    by_cases h : (rfS F R c).1 < R ∧ pvF (rfS F R c).2 c R (rfS F R c).1 < R
    · rw [rf_yes F R c h.1 h.2]; show _ + 1 ≤ R; omega
    · rw [rf_no F R c h]; exact ih
set_option maxRecDepth 100000 in
theorem rf_yes1 (F : Nat → Nat → Nat) (R c : Nat) (h1 : (rfS F R c).1 < R) (h2 : pvF (rfS F R c).2 c R (rfS F R c).1 < R) : (rfS F R (c + 1)).1 = (rfS F R c).1 + 1 ∧ (rfS F R (c + 1)).2 = woF (swF (rfS F R c).2 (rfS F R c).1 (pvF (rfS F R c).2 c R (rfS F R c).1)) (rfS F R c).1 c := by rw [rf_yes F R c h1 h2]; exact ⟨rfl, rfl⟩
set_option maxRecDepth 100000 in
theorem beq_nz (x : Nat) (h : x ≠ 0) : (((x : Nat) : Int) == 0) = false := by simp; omega
attribute [local irreducible] gexp gtbl glog rmul rinv rpow zexp mixF blk wLoad wLoadRes loadAns wStore wStoreRes storeAns Plain flF BRow MRow elK elF IsGf rfS pvF clF swF OwnZ zfl woF MAt
attribute [local go_sem ↓] ld_m0 sto_m0
attribute [local go_sem] ld_m sto_m loadAns_some storeAns_some mx_size mx_plain blk_alloc_if blk_setRow_if blk_drew_at blk_drewN_at rowPut_some blk_setCell_if cellPut_some
end Go.Proofs.Ytmfagdbocidfjaa
