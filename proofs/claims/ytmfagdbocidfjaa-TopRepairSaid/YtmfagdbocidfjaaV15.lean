import Derived.Test.YtmfagdbocidfjaaV14
/- The contract of the document's without. Conditions: what the slice reads as. -/
namespace Go.Proofs.Ytmfagdbocidfjaa
open Go.RowKit
/-- the rows behind n up to row i, column k, are done -/
def woP (F : Nat → Nat → Nat) (n col i k r c : Nat) : Nat := if n < r ∧ (r < i ∨ (r = i ∧ c < k)) then F r c ^^^ rmul (rmul (F r col) (rinv (F n col))) (F n c) else F r c
set_option maxRecDepth 100000 in
theorem woP_zero (F : Nat → Nat → Nat) (n col r c : Nat) : F r c = woP F n col (n + 1) 0 r c := by unfold woP; rw [if_neg (by omega)]
set_option maxRecDepth 100000 in
theorem woP_at (F : Nat → Nat → Nat) (n col i k : Nat) : woP F n col i k i k = F i k := by unfold woP; rw [if_neg (by omega)]
set_option maxRecDepth 100000 in
theorem woP_next (F : Nat → Nat → Nat) (n col i k : Nat) (hi : n < i) (r c : Nat) : stF (woP F n col i k) i k (F i k ^^^ rmul (rmul (F i col) (rinv (F n col))) (F n k)) r c = woP F n col i (k + 1) r c := by
  unfold stF woP
  by_cases h : r = i ∧ c = k
  · obtain ⟨rfl, rfl⟩ := h
    rw [if_pos ⟨rfl, rfl⟩, if_pos (by omega)]
  · rw [if_neg h]
    by_cases h2 : n < r ∧ (r < i ∨ (r = i ∧ c < k))
    · rw [if_pos h2, if_pos (by omega)]
    · rw [if_neg h2, if_neg (by omega)]
set_option maxRecDepth 100000 in
theorem woP_row (F : Nat → Nat → Nat) (n col i C r c : Nat) (hc : c < C) : woP F n col i C r c = woP F n col (i + 1) 0 r c := by
  unfold woP
  by_cases h2 : n < r ∧ (r < i ∨ (r = i ∧ c < C))
  · rw [if_pos h2, if_pos (by omega)]
  · rw [if_neg h2, if_neg (by omega)]
set_option maxRecDepth 100000 in
theorem woP_end (F : Nat → Nat → Nat) (n col R r c : Nat) (hr : r < R) : woP F n col R 0 r c = woF F n col r c := by
  unfold woP woF
  by_cases h : n < r
  · rw [if_pos h, if_pos (by omega)]
  · rw [if_neg h, if_neg (by omega)]
set_option maxRecDepth 100000 in
theorem MRow.of_one {w : World} {g R C : Nat} {F : Nat → Nat → Nat} (h : MRow w g 1 (R * C) (fun _ j => flF C F j)) : MRow w g R C F := by
  have h2 : BRow w g (1 * (R * C)) (flF (R * C) (fun _ j => flF C F j)) := h
  rw [Nat.one_mul] at h2
  refine MRow.of h2 (fun i k hi hk => ?_)
  have := fl_at (R * C) (fun _ j => flF C F j) 0 (i * C + k) (idx_lt hi hk)
  rw [Nat.zero_mul, Nat.zero_add] at this
  rw [this, fl_at C F i k hk]
set_option maxRecDepth 100000 in
theorem wpList_copyM {P : Program} {ops : Array Oper} {rest : List Oper} {o : Oper} {a : Act} {w w' : World} {Q : Exit → Act → World → Prop} {v x r : Value} (hgd : o.guard = none) (s y : Operand) (t u : TypeId)
    (ho : o.op = .call { callee := .builtin .copy, args := #[s, y], argTypes := #[t, u] }) (hs : a.eval s = v) (hx : a.eval y = x) (hr : (Builtin.copy_ #[t, u] o.type #[v, x]).run P w = .ok r w')
    (h : wpList P ops Q rest (a.put o.dst r) w') : wpList P ops Q (o :: rest) a w := by
  refine wpList_plain hgd fun K hK => ?_
  unfold Oper.wp
  rw [exec_copy s y t u ho hs hx hr]
  exact hK _ _ h
set_option maxRecDepth 100000 in
theorem By.of_flat {w : World} {a : Option Addr} {R C : Nat} {F : Nat → Nat → Nat} (h : MAt w a R C F) : By w a (R * C) ((fun _ j => flF C F j : Nat → Nat → Nat) 0) := h.by
attribute [local irreducible] gexp gtbl glog rmul rinv rpow zexp mixF blk wLoad wLoadRes loadAns wStore wStoreRes storeAns Plain flF BRow MRow elK elF IsGf ivS gjS pvF clF swF OwnZ zfl woP
attribute [local go_sem ↓] ld_m0 sto_m0
attribute [local go_sem] ld_m sto_m loadAns_some storeAns_some mx_size mx_plain blk_alloc_if blk_setRow_if blk_drew_at blk_drewN_at rowPut_some blk_setCell_if cellPut_some
end Go.Proofs.Ytmfagdbocidfjaa
