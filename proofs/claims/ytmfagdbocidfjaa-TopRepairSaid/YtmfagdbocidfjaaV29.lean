import Derived.Test.YtmfagdbocidfjaaV28
/- The document's Weight and At. Conditions: what the rows read as. -/
namespace Go.Proofs.Ytmfagdbocidfjaa
open Go.RowKit
set_option maxRecDepth 100000 in
theorem BRow.cl {w : World} {g n : Nat} {f : Nat → Nat} (h : BRow w g n f) (i : Nat) (hi : i < n) : w.cell? ⟨g, i, none⟩ = some (.int .u8 (f i : Nat)) := FRow.cell h i hi
set_option maxRecDepth 100000 in
theorem BRow.fz {w : World} {g n : Nat} {f : Nat → Nat} (h : BRow w g n f) (i : Nat) : w.frozen? ⟨g, i, none⟩ = false := FRow.fr h i
attribute [local irreducible] gexp gtbl glog rmul rinv rpow zexp mixF blk flF BRow MRow MAt By IsGf ivS rsF mlF RowsAt upP
/-- At's row: the columns ahead of j are added, of the column j the first t places -/
def atF (k x : Nat) (V : Nat → Nat → Nat) (j t i : Nat) : Nat := if i < t then dtF (fun _ c => rsF k x c) V 0 i (j + 1) else dtF (fun _ c => rsF k x c) V 0 i j
set_option maxRecDepth 100000 in
theorem at_lt (k x : Nat) (V : Nat → Nat → Nat) (j t i : Nat) : atF k x V j t i < 256 := by unfold atF; split <;> exact dt_lt _ _ _ _ _
set_option maxRecDepth 100000 in
theorem at_row (k x : Nat) (V : Nat → Nat → Nat) (j n i : Nat) (hi : i < n) : atF k x V j n i = atF k x V (j + 1) 0 i := by unfold atF; rw [if_pos hi, if_neg (by omega)]
set_option maxRecDepth 100000 in
theorem at_next (k x : Nat) (V : Nat → Nat → Nat) (j t i : Nat) : (if i = t then atF k x V j t t ^^^ rmul (rsF k x j) (V j t) else atF k x V j t i) = atF k x V j (t + 1) i := by
  unfold atF
  by_cases h : i = t
  · subst h
    rw [if_pos rfl, if_neg (by omega), if_pos (by omega), dt_next]
  · rw [if_neg h]
    by_cases h2 : i < t
    · rw [if_pos h2, if_pos (by omega)]
    · rw [if_neg h2, if_neg (by omega)]
attribute [local irreducible] atF
end Go.Proofs.Ytmfagdbocidfjaa

/- The document's Encode. Conditions: what the rows read as. -/
namespace Go.Proofs.Ytmfagdbocidfjaa
open Go.RowKit
set_option maxRecDepth 100000 in
theorem wpList_app_run {P : Program} {ops : Array Oper} {rest : List Oper} {o : Oper} {a : Act} {w w' : World} {Q : Exit → Act → World → Prop} {v xv r : Value} (hgd : o.guard = none) (s x : Operand) (t u : TypeId)
    (ho : o.op = .call { callee := .builtin .append, args := #[s, x], argTypes := #[t, u] }) (hs : a.eval s = v) (hx : a.eval x = xv)
    (hr : (Builtin.append_ #[t, u] o.type #[v, xv]).run P w = .ok r w') (h : wpList P ops Q rest (a.put o.dst r) w') : wpList P ops Q (o :: rest) a w :=
  wpList_plain hgd fun _ hK => by
    unfold Oper.wp
    rw [exec_appendM s x t u ho hs hx hr]
    exact hK _ _ h
set_option maxRecDepth 100000 in
/-- append(s, x), one row -/
theorem wpList_snocS {ops : Array Oper} {rest : List Oper} {o : Oper} {a : Act} {w : World} {Q : Exit → Act → World → Prop} (hgd : o.guard = none) (s x : Operand)
    (ho : o.op = .call { callee := .builtin .append, args := #[s, x], argTypes := #[68, 68] })
    (W : World) (v : Value) (base m n : Nat) (V : Nat → Nat → Nat) (u : Value) (hs : a.eval s = v) (hw : w = W.alloc (.cells #[u] 71)) (hx : a.eval x = .slice (some ⟨W.heap.size, 0, none⟩) 1 1)
    (hown : OwnS W base v m n V) (hu : SlR W base n (V m) u) (hm : m ≤ 900000) (hbase : base ≤ W.heap.size)
    (h : ∀ v' w', OwnS w' base v' (m + 1) n V → W.grownBy w' v.ownBlock → wpList Try.prog ops Q rest (a.put o.dst v') w') : wpList Try.prog ops Q (o :: rest) a w := by
  subst hw
  obtain ⟨v', w', hr, h1, h2⟩ := run_snocS W v base m n V u o.type hown hu hm hbase
  exact wpList_app_run hgd s x _ _ ho hs hx hr (h v' w' h1 h2)
set_option maxRecDepth 100000 in
/-- append(s, p...) of rows -/
theorem wpList_catS {ops : Array Oper} {rest : List Oper} {o : Oper} {a : Act} {w : World} {Q : Exit → Act → World → Prop} (hgd : o.guard = none) (s x : Operand)
    (ho : o.op = .call { callee := .builtin .append, args := #[s, x], argTypes := #[68, 68] })
    (v : Value) (base m n c cp : Nat) (V U : Nat → Nat → Nat) (q : Nat) (A' : Nat → Value) (hs : a.eval s = v) (hx : a.eval x = .slice (some ⟨q, 0, none⟩) c cp)
    (hown : OwnS w base v m n V) (hc : ∀ i, i < c → w.cell? ⟨q, i, none⟩ = some (A' i)) (hA : ∀ i, i < c → SlR w base n (U i) (A' i)) (hm : m + c ≤ 1000000) (hbase : base ≤ w.heap.size)
    (h : ∀ v' w', OwnS w' base v' (m + c) n (catV m V U) → w.grownBy w' v.ownBlock → wpList Try.prog ops Q rest (a.put o.dst v') w') : wpList Try.prog ops Q (o :: rest) a w := by
  obtain ⟨v', w', hr, h1, h2⟩ := run_catS w v base m n c cp V U q A' o.type hown hc hA hm hbase
  exact wpList_app_run hgd s x _ _ ho hs hx hr (h v' w' h1 h2)
set_option maxRecDepth 100000 in
/-- append(s, p...), p is nothing -/
theorem wpList_catS0 {ops : Array Oper} {rest : List Oper} {o : Oper} {a : Act} {w : World} {Q : Exit → Act → World → Prop} (hgd : o.guard = none) (s x : Operand)
    (ho : o.op = .call { callee := .builtin .append, args := #[s, x], argTypes := #[68, 68] })
    (v : Value) (base m n : Nat) (V : Nat → Nat → Nat) (hs : a.eval s = v) (hx : a.eval x = .slice none 0 0) (hown : OwnS w base v m n V)
    (h : wpList Try.prog ops Q rest (a.put o.dst v) w) : wpList Try.prog ops Q (o :: rest) a w := by
  obtain ⟨i0, hi, hz0, hz1, hz2⟩ := info_parts infoS
  obtain ⟨A, h1, h2⟩ := hown
  exact wpList_app_run hgd s x _ _ ho hs hx (run_append_owned_none (P := Try.prog) (w := w) base 68 o.type 71 i0 1 Try.underlying68 hi _ m _ h1) h
set_option maxRecDepth 100000 in
theorem dt_cong (F F' G : Nat → Nat → Nat) (i i' t : Nat) : ∀ n, (∀ m, m < n → F i m = F' i' m) → dtF F G i t n = dtF F' G i' t n
  | 0, _ => by rw [dt_zero, dt_zero]
  | n + 1, h => by rw [dt_next, dt_next, dt_cong F F' G i i' t n (fun m hm => h m (by omega)), h n (by omega)]
set_option maxRecDepth 100000 in
theorem pa_at (k : Nat) (V : Nat → Nat → Nat) (i t : Nat) : dtF (fun _ c => rsF k (k + i) c) V 0 t k = paF k V i t := by
  unfold paF mlF
  exact dt_cong _ _ _ _ _ _ _ (fun m _ => rfl)
def EncRPost (W : World) (m n : Nat) (U : Nat → Nat → Nat) (e : Ending) (W' : World) : Prop := ∃ v, e = .returned (.tuple #[v, .int .i64 0]) ∧ OwnS W' W.heap.size v m n U ∧ Below W.heap.size W W'
set_option maxRecDepth 100000 in
theorem SlR.form {w : World} {B n : Nat} {f : Nat → Nat} {u : Value} (h : SlR w B n f u) : ∃ g k, u = .slice (some ⟨g, 0, none⟩) n k := by
  obtain ⟨g, k, h, _⟩ := h
  exact ⟨g, k, h⟩
attribute [local irreducible] gexp gtbl glog rmul rinv rpow zexp mixF blk flF BRow MRow MAt By IsGf ivS rsF mlF RowsAt paF OwnS SlR dtF
end Go.Proofs.Ytmfagdbocidfjaa
