import Derived.Test.YtmfagdbocidfjaaV06
import Derived.Test.YtmfagdbocidfjaaV29
import Derived.Test.YtmfagdbocidfjaaV09
import Derived.Test.YtmfagdbocidfjaaV05
import Derived.ArgAppend
/- A drawn region in which a cell is read, a call is made whose result goes into a fresh block, and both are wanted by what follows. Lemmas alone. -/
namespace Go.Proofs.Ytmfagdbocidfjaa
open Go.RowKit
section
variable {P : Program} {ops : Array Oper} {Q : Exit → Act → World → Prop} {S : World → Prop}
set_option maxRecDepth 100000 in
theorem h_lcb {i j k : Nat} {oi oj ok : Oper} {f : FuncId} {args : Array Value} {fuel : Nat} {listed : Array Bool} {a : Act} {w : World} (v : Value) (ob : Value → Obj) (L : World → Prop) (R : Value → World → Prop) (l0 l1 : List Nat)
    (hw : L w) (hLS : ∀ x, L x → S x) (hLa : ∀ x u, L x → L (x.alloc (ob u)))
    (cj : Calls P f args w fun e x => ∃ u, e = .returned u ∧ L x ∧ R u x)
    (hi0 : opAt ops.toList i = some oi) (hj0 : opAt ops.toList j = some oj) (hk0 : opAt ops.toList k = some ok)
    (r0 : Region.ready .any ops listed = l0) (l0m : l0 ≠ [] ∧ ∀ m ∈ l0, m = i ∨ m = j)
    (ri : Region.ready .any ops (listed.setIfInBounds i true) = [j]) (rij : Region.ready .any ops ((listed.setIfInBounds i true).setIfInBounds j true) = [k])
    (rj : Region.ready .any ops (listed.setIfInBounds j true) = l1) (l1m : l1 ≠ [] ∧ ∀ m ∈ l1, m = i ∨ m = k)
    (rji : Region.ready .any ops ((listed.setIfInBounds j true).setIfInBounds i true) = [k]) (rjk : Region.ready .any ops ((listed.setIfInBounds j true).setIfInBounds k true) = [i])
    (wi : ∀ t, Region.wanted oi t = true) (wj : ∀ t, Region.wanted oj t = true) (wk : ∀ t, Region.wanted ok t = true)
    (vi : ∀ x, L x → (execOp a.eval oi).run P x = .ok (.value v) x) (vi1 : ∀ x u, L x → (execOp (a.put oj.dst u).eval oi).run P x = .ok (.value v) x)
    (vi2 : ∀ x u b, L x → (execOp ((a.put oj.dst u).put ok.dst b).eval oi).run P x = .ok (.value v) x)
    (ej : (execOp a.eval oj).run P w = .ok (.enter f args) w) (ej1 : (execOp (a.put oi.dst v).eval oj).run P w = .ok (.enter f args) w)
    (bk : ∀ x u, L x → R u x → (execOp ((a.put oi.dst v).put oj.dst u).eval ok).run P x = .ok (.value (.slice (some ⟨x.heap.size, 0, none⟩) 1 1)) (x.alloc (ob u)))
    (bk1 : ∀ x u, L x → R u x → (execOp (a.put oj.dst u).eval ok).run P x = .ok (.value (.slice (some ⟨x.heap.size, 0, none⟩) 1 1)) (x.alloc (ob u)))
    (bk2 : ∀ x u, L x → R u x → (execOp ((a.put oj.dst u).put oi.dst v).eval ok).run P x = .ok (.value (.slice (some ⟨x.heap.size, 0, none⟩) 1 1)) (x.alloc (ob u)))
    (hl1 : (((listed.setIfInBounds j true).setIfInBounds i true).setIfInBounds k true) = (((listed.setIfInBounds i true).setIfInBounds j true).setIfInBounds k true))
    (hl2 : (((listed.setIfInBounds j true).setIfInBounds k true).setIfInBounds i true) = (((listed.setIfInBounds i true).setIfInBounds j true).setIfInBounds k true))
    (ha1 : ∀ u b, ((a.put oj.dst u).put oi.dst v).put ok.dst b = ((a.put oi.dst v).put oj.dst u).put ok.dst b) (ha2 : ∀ u b, ((a.put oj.dst u).put ok.dst b).put oi.dst v = ((a.put oi.dst v).put oj.dst u).put ok.dst b)
    (h : ∀ x u, L x → R u x → wpAnyH P .any ops (NoPanic Q) S fuel (((listed.setIfInBounds i true).setIfInBounds j true).setIfInBounds k true) (((a.put oi.dst v).put oj.dst u).put ok.dst (.slice (some ⟨x.heap.size, 0, none⟩) 1 1)) (x.alloc (ob u))) :
    wpAnyH P .any ops (NoPanic Q) S (fuel + 1 + 1 + 1) listed a w := by
  refine wpAnyH_all r0 l0m.1 (fun m hm => ?_)
  rcases l0m.2 m hm with rfl | rfl
  · refine wpOp_step (opAt_of hi0) (fun K' hK => ?_)
    rw [if_pos (wi _)]
    unfold Oper.wp
    rw [vi w hw]
    refine hK _ _ ⟨hLS _ hw, ?_⟩
    refine h_call (i := j) S (fun _ h => h) cj hj0 ri (wj _) ej1 (fun e x1 hx1 => ?_)
    obtain ⟨u, rfl, h1, h2⟩ := hx1
    refine ⟨u, rfl, hLS _ h1, ?_⟩
    exact h_value (i := k) S (fun _ h => h) hk0 rij (wk _) (bk x1 u h1 h2) (hLS _ (hLa x1 u h1)) (h x1 u h1 h2)
  · refine wpOp_step (opAt_of hj0) (fun K' hK => ?_)
    rw [if_pos (wj _)]
    unfold Oper.wp
    rw [ej]
    exact cj.mono fun e x1 hx1 => by
      obtain ⟨u, rfl, h1, h2⟩ := hx1
      refine hK _ _ ⟨hLS _ h1, ?_⟩
      refine wpAnyH_all rj l1m.1 (fun m2 hm2 => ?_)
      rcases l1m.2 m2 hm2 with rfl | rfl
      · refine wpOp_step (opAt_of hi0) (fun K2 hK2 => ?_)
        rw [if_pos (wi _)]
        unfold Oper.wp
        rw [vi1 x1 u h1]
        refine hK2 _ _ ⟨hLS _ h1, ?_⟩
        refine h_value (i := k) S (fun _ h => h) hk0 rji (wk _) (bk2 x1 u h1 h2) (hLS _ (hLa x1 u h1)) ?_
        rw [hl1, ha1]
        exact h x1 u h1 h2
      · refine wpOp_step (opAt_of hk0) (fun K2 hK2 => ?_)
        rw [if_pos (wk _)]
        unfold Oper.wp
        rw [bk1 x1 u h1 h2]
        refine hK2 _ _ ⟨hLS _ (hLa x1 u h1), ?_⟩
        refine h_value (i := i) S (fun _ h => h) hi0 rjk (wi _) (vi2 _ u _ (hLa x1 u h1)) (hLS _ (hLa x1 u h1)) ?_
        rw [hl2, ha2]
        exact h x1 u h1 h2
end
end Go.Proofs.Ytmfagdbocidfjaa

/- Groups as blocks of five cells: whole-row rules, a list of rows in a field. Lemmas alone. -/
namespace Go.Proofs.Ytmfagdbocidfjaa
open Go.RowKit
set_option maxRecDepth 100000 in
theorem gg_info : (Try.prog.info? 70).map (·.size) = some 5 := by kernel_rfl
set_option maxRecDepth 100000 in
theorem gg_size (x y z u v : Value) : #[x, y, z, u, v].size = 5 := rfl
set_option maxRecDepth 100000 in
theorem gg_plain (k1 k2 k3 k4 : IntKind) (a b c d : Int) (s : Option Addr) (n m : Nat) : Plain #[.int k1 a, .int k2 b, .int k3 c, .int k4 d, .slice s n m] := by unfold Plain; simp [Value.oneCell']
set_option maxRecDepth 100000 in
theorem ld_g0 (v : Value) : Instr.loadAt 70 v = wLoad 70 v := rfl
set_option maxRecDepth 100000 in
theorem ld_g (w : World) (b : Nat) : (wLoad 70 (.pointer (some ⟨b, 0, none⟩))).run Try.prog w = loadAns 5 w (blk w b) (wLoadRes Try.prog 70 b w) := run_wLoad Try.underlying70 rfl gg_info w b
set_option maxRecDepth 100000 in
theorem sto_g0 (p x : Value) : Instr.storeAt 70 p x = wStore 70 p x := rfl
set_option maxRecDepth 100000 in
theorem sto_g (w : World) (b : Nat) (C : Array Value) : (wStore 70 (.pointer (some ⟨b, 0, none⟩)) (.agg C)).run Try.prog w = storeAns 5 w b C (blk w b) (wStoreRes Try.prog 70 b C w) := run_wStore gg_info w b C
set_option maxRecDepth 100000 in
theorem zeroGG (w : World) : (zeroValue 70).run Try.prog w = .ok (.agg #[.int .u32 0, .int .u32 0, .int .i64 0, .int .i64 0, .slice none 0 0]) w := by kernel_rfl
/-- the inputs' bytes -/
def inV (I : Nat → Nat) (j t : Nat) : Nat := put16F (I j) t
set_option maxRecDepth 100000 in
theorem inV_bd (I : Nat → Nat) (h : ∀ j, I j < 65536) : Bd2 (inV I) := fun j t => by
  have := h j
  unfold inV put16F
  split <;> omega
/-- a group's shards -/
def grD (K : Nat) (I : Nat → Nat) : Nat → Nat → Nat := catV K (inV I) (paF K (inV I))
/-- a block whose fifth cell is a list of rows of one's own -/
structure MkAt (wr W : World) (q : Nat) (T : TypeId) (no fi K m : Int) (v : Value) (i n : Nat) (V : Nat → Nat → Nat) : Prop where
  b : wr.heap[q]? = some (.cells #[.int .u32 no, .int .u32 fi, .int .i64 K, .int .i64 m, v] T (0, 0))
  own : OwnS wr W.heap.size v i n V
  lo : Below W.heap.size W wr
  q : W.heap.size ≤ q
set_option maxRecDepth 100000 in
theorem MkAt.lt {wr W : World} {q i n : Nat} {T : TypeId} {no fi K m : Int} {v : Value} {V : Nat → Nat → Nat} (h : MkAt wr W q T no fi K m v i n V) : q < wr.heap.size := (Array.getElem?_eq_some_iff.1 h.b).1
set_option maxRecDepth 100000 in
theorem MkAt.below {wr w2 W : World} {q i n : Nat} {T : TypeId} {no fi K m : Int} {v : Value} {V : Nat → Nat → Nat} (h : MkAt wr W q T no fi K m v i n V) (hb : Below wr.heap.size wr w2) : MkAt w2 W q T no fi K m v i n V :=
  ⟨(hb.block q h.lt).trans h.b, h.own.below hb, h.lo.trans (hb.mono h.lo.size), h.q⟩
set_option maxRecDepth 100000 in
theorem MkAt.cell {wr W : World} {q i n : Nat} {T : TypeId} {no fi K m : Int} {v : Value} {V : Nat → Nat → Nat} (h : MkAt wr W q T no fi K m v i n V) : wr.cell? ⟨q, 4, none⟩ = some v ∧ wr.frozen? ⟨q, 4, none⟩ = false :=
  ⟨(cell_of_block h.b).trans rfl, frozen_of_row wr q 4 _ _ h.b⟩
set_option maxRecDepth 100000 in
/-- behind an append to the list: the block still holds the old one -/
theorem MkAt.step {wr W w6 : World} {q i n i' : Nat} {T : TypeId} {no fi K m : Int} {v v' : Value} {V V' : Nat → Nat → Nat} (h : MkAt wr W q T no fi K m v i n V) (hT : T ≠ 71) (hg : wr.grownBy w6 v.ownBlock) (ho : OwnS w6 W.heap.size v' i' n V') :
    w6.heap[q]? = some (.cells #[.int .u32 no, .int .u32 fi, .int .i64 K, .int .i64 m, v] T (0, 0)) ∧ Below W.heap.size W w6 := by
  refine ⟨(hg.block q h.lt (fun e => ?_)).trans h.b, below_grown h.lo (Nat.le_refl _) hg (fun p hp => (h.own.lt p hp).1)⟩
  obtain ⟨A, h1, _⟩ := h.own
  obtain ⟨cur, fr, h2⟩ := own_type h1 q e.symm
  rw [h.b] at h2
  injection h2 with h2
  injection h2 with _ h3
  exact hT h3
set_option maxRecDepth 100000 in
theorem MkAt.put {wr W w6 : World} {q i n i' : Nat} {T : TypeId} {no fi K m : Int} {v v' : Value} {V V' : Nat → Nat → Nat} (h : MkAt wr W q T no fi K m v i n V) (hT : T ≠ 71) (hT2 : T ≠ 5) (hg : wr.grownBy w6 v.ownBlock) (ho : OwnS w6 W.heap.size v' i' n V') :
    MkAt (w6.setCell ⟨q, 4, none⟩ v') W q T no fi K m v' i' n V' := by
  obtain ⟨h1, h2⟩ := h.step hT hg ho
  refine ⟨(blk_set h1 4 v').trans rfl, ho.kept (only_set (only_refl w6 (some q)) 4 v') ?_ (fun p hp => ?_), h2.setCell h.q v', h.q⟩
  · rcases hv : v'.ownBlock with _ | p
    · exact .inl rfl
    · refine .inr (fun e => ?_)
      injection e with e
      subst e
      obtain ⟨A, h3, _⟩ := ho
      obtain ⟨cur, fr, h4⟩ := own_type h3 p hv
      rw [h1] at h4
      injection h4 with h4
      injection h4 with _ h5
      exact hT h5
  · injection hp with hp
    subst hp
    exact ⟨_, _, _, h1, hT2⟩
set_option maxRecDepth 100000 in
theorem own_base2 {w : World} {b b' n : Nat} {v : Value} {xs : List Value} {T : TypeId} (h : w.ownsRow b T 1 v n xs) (hb : b' ≤ b) : w.ownsRow b' T 1 v n xs := by
  refine ⟨h.1, ?_⟩
  rcases h.2 with h1 | ⟨g, cap, cur, h1, h2, h3⟩
  · exact .inl h1
  · exact .inr ⟨g, cap, cur, h1, by omega, h3⟩
set_option maxRecDepth 100000 in
theorem OwnS.base {w : World} {b b' m n : Nat} {v : Value} {V : Nat → Nat → Nat} (h : OwnS w b v m n V) (hb : b' ≤ b) : OwnS w b' v m n V := by
  obtain ⟨A, h1, h2⟩ := h
  exact ⟨A, own_base2 h1 hb, fun i hi => (h2 i hi).base hb⟩
set_option maxRecDepth 100000 in
theorem OwnS.form {w : World} {b m n : Nat} {v : Value} {V : Nat → Nat → Nat} (h : OwnS w b v m n V) : ∃ s cap, v = .slice s m cap := by
  obtain ⟨s, cap, h, _⟩ := h.open
  exact ⟨s, cap, h⟩
set_option maxRecDepth 100000 in
theorem ApAt.rowsS {wr W : World} {g R n : Nat} {G : Nat → Nat → Nat} {D : Array Value} (h : ApAt wr W g R n R G D) (hn : n ≤ 100000) : ∃ A : Nat → Value, (∀ i, i < R → wr.cell? ⟨g, i, none⟩ = some (A i)) ∧ ∀ i, i < R → SlR wr g n (G i) (A i) := by
  obtain ⟨A, hA⟩ := h.cells hn
  exact ⟨A, fun i hi => (hA i hi).1, fun i hi => (hA i hi).2⟩
/-- a group that comes back -/
def MkPost (W : World) (no fi : Int) (K m : Nat) (I : Nat → Nat) (x : Value) (e : Ending) (W' : World) : Prop :=
  ∃ s cap, e = .returned (.tuple #[.agg #[.int .u32 no, .int .u32 fi, .int .i64 (K : Nat), .int .i64 (m : Nat), .slice s (K + m) cap], x]) ∧ OwnS W' W.heap.size (.slice s (K + m) cap) (K + m) 2 (grD K I) ∧ Below W.heap.size W W'
def MkNo (W : World) (x : Value) (e : Ending) (W' : World) : Prop :=
  e = .returned (.tuple #[.agg #[.int .u32 0, .int .u32 0, .int .i64 0, .int .i64 0, .slice none 0 0], x]) ∧ Below W.heap.size W W'
set_option maxRecDepth 100000 in
/-- append(s, p...) of rows, both of one's own -/
theorem wpList_catO {ops : Array Oper} {rest : List Oper} {o : Oper} {a : Act} {w : World} {Q : Exit → Act → World → Prop} (hgd : o.guard = none) (s x : Operand)
    (ho : o.op = .call { callee := .builtin .append, args := #[s, x], argTypes := #[68, 68] })
    (v xv : Value) (base m n c : Nat) (V U : Nat → Nat → Nat) (hs : a.eval s = v) (hx : a.eval x = xv)
    (hown : OwnS w base v m n V) (hsrc : OwnS w base xv c n U) (hm : m + c ≤ 1000000) (hbase : base ≤ w.heap.size)
    (h : ∀ v' w', OwnS w' base v' (m + c) n (catV m V U) → w.grownBy w' v.ownBlock → wpList Try.prog ops Q rest (a.put o.dst v') w') : wpList Try.prog ops Q (o :: rest) a w := by
  obtain ⟨A', h1, h2⟩ := hsrc
  rcases h1.2 with ⟨h3, h4⟩ | ⟨g, cap, cur, hv, hb, hg, q1, q2, q3, q4⟩
  · subst h3
    subst h4
    refine wpList_catS0 hgd s x ho v base m n V hs hx hown (h v w (hown.congr (fun i j hi _ => ?_)) (only_refl _ _))
    unfold catV
    rw [if_pos (by omega)]
  · subst hv
    refine wpList_catS hgd s x ho v base m n c cap V U g A' hs hx hown (fun i hi => ?_) h2 hm hbase h
    rw [cell_of_block hg]
    have e : ((List.range c).map A')[i]? = some (A' i) := by simp [hi]
    rw [← q4, List.getElem?_take, if_pos (by omega), Array.getElem?_toList] at e
    exact e
end Go.Proofs.Ytmfagdbocidfjaa

/- Appending one slice of numbers to a row of numbers that a call made itself: what becomes of the row, and of all else. Lemmas alone. -/
namespace Go.Proofs.Ytmfagdbocidfjaa
open Go.RowKit
def catZ (n : Nat) (f h : Nat → Int) (j : Nat) : Int := if j < n then f j else h (j - n)
set_option maxRecDepth 100000 in
theorem rowZ_cat (k : IntKind) (n m : Nat) (f h : Nat → Int) : rowZ k n f ++ rowZ k m h = rowZ k (n + m) (catZ n f h) := by
  apply List.ext_getElem?
  intro i
  by_cases h1 : i < n
  · rw [List.getElem?_append_left (by rw [rowZ_length]; exact h1), rowZ_get _ _ _ _ h1, rowZ_get _ _ _ _ (by omega)]
    unfold catZ; rw [if_pos h1]
  · rw [List.getElem?_append_right (by rw [rowZ_length]; omega), rowZ_length]
    by_cases h2 : i < n + m
    · rw [rowZ_get _ _ _ _ (by omega), rowZ_get _ _ _ _ h2]
      unfold catZ; rw [if_neg h1]
    · have e1 : ∀ (a : Nat) (g : Nat → Int) (j : Nat), a ≤ j → (rowZ k a g)[j]? = none := fun a g j hj => List.getElem?_eq_none (by rw [rowZ_length]; exact hj)
      rw [e1 _ _ _ (by omega), e1 _ _ _ (by omega)]
set_option maxRecDepth 100000 in
theorem own_baseZ {w : World} {b b' n : Nat} {v : Value} {xs : List Value} {T : TypeId} (h : w.ownsRow b T 1 v n xs) (hb : b' ≤ b) : w.ownsRow b' T 1 v n xs := by
  refine ⟨h.1, ?_⟩
  rcases h.2 with h1 | ⟨g, cap, cur, h1, h2, h3⟩
  · exact .inl h1
  · exact .inr ⟨g, cap, cur, h1, by omega, h3⟩
set_option maxRecDepth 100000 in
theorem OwnZ.base {w : World} {b b' n : Nat} {T : TypeId} {k : IntKind} {v : Value} {f : Nat → Int} (h : OwnZ w b T k v n f) (hb : b' ≤ b) : OwnZ w b' T k v n f := own_baseZ h hb
set_option maxRecDepth 100000 in
theorem OwnZ.form {w : World} {b n : Nat} {T : TypeId} {k : IntKind} {v : Value} {f : Nat → Int} (h : OwnZ w b T k v n f) : ∃ s cap, v = .slice s n cap := by
  obtain ⟨s, cap, h, _⟩ := h.open
  exact ⟨s, cap, h⟩
set_option maxRecDepth 100000 in
theorem run_catZ {P : Program} {S T : TypeId} {k : IntKind} {bytes : Nat} (hS : P.underlying S = some (.slice T)) (hI : (P.info? T).map (fun i => (i.zero, i.size, i.bytes)) = some (some (.int k 0), 1, bytes)) (hby : bytes ≤ 8)
    (w : World) (v : Value) (base n : Nat) (f : Nat → Int) (hown : OwnZ w base T k v n f)
    (A : Option Addr) (c m : Nat) (h : Nat → Int) (hA : ZAt w k A m h) (hnone : A = none → m = 0 ∧ c = 0) (hk : n + m ≤ 100000000) (hbase : base ≤ w.heap.size) (ty : TypeId) :
    ∃ v' w', (Builtin.append_ #[S, S] ty #[v, .slice A m c]).run P w = .ok v' w' ∧ OwnZ w' base T k v' (n + m) (catZ n f h) ∧ w.grownBy w' v.ownBlock ∧ (∀ b, v'.ownBlock = some b → v.ownBlock = some b ∨ w.heap.size ≤ b) := by
  obtain ⟨i0, hi, hz0, hz1, hz2⟩ := info_parts hI
  have hnews : ∀ ad, A = some ad → ∀ j u, (rowZ k m h)[j]? = some u → w.cell? (ad.add j) = some u := by
    intro ad hA2 j u hj
    have hjm : j < m := by have := (List.getElem?_eq_some_iff.1 hj).1; rw [rowZ_length] at this; exact this
    rw [rowZ_get _ _ _ _ hjm] at hj
    obtain ⟨b, off, he, hc⟩ := hA j hjm
    rw [hA2] at he
    injection he with he
    subst he
    injection hj with hj
    subst hj
    by_cases hz : j = 0
    · subst hz; simpa [Addr.add] using hc
    · simpa [Addr.add, hz] using hc
  have h1c : ∀ u ∈ rowZ k m h, u.oneCell' = true := by
    intro u hu
    unfold rowZ at hu
    obtain ⟨y, _, rfl⟩ := List.mem_map.1 hu
    rfl
  have hln : (rowZ k m h).length = m * 1 := by rw [rowZ_length]; simp
  have hbyt : (n + m) * bytes ≤ 140737488355328 := by
    have := Nat.mul_le_mul (show n + m ≤ 100000000 by omega) hby
    omega
  cases A with
  | none =>
    obtain ⟨rfl, rfl⟩ := hnone rfl
    refine ⟨v, w, run_append_owned_none (P := P) (w := w) base S ty T i0 1 hS hi _ n _ hown, OwnZ.congr (show OwnZ w base T k v (n + 0) f from hown) (fun j hj => by unfold catZ; rw [if_pos (by omega)]), only_refl _ _, fun b hb => .inl hb⟩
  | some ad =>
    have hc := hnews ad rfl
    rcases hown.2 with ⟨hv, hn⟩ | ⟨g, cap, cur, hv, q1, q2, q3, q4, q5, q6⟩
    · subst hn hv
      have hown' : w.ownsRow w.heap.size T 1 (.slice none 0 0) 0 (rowZ k 0 f) := World.ownsRow_nil _ _ _ _
      obtain ⟨v', w', hr, h2, h3, _⟩ := run_append_own (P := P) w w.heap.size S ty T i0 (.int k 0) 1 bytes hS hi hz0 hz1 hz2 rfl (by decide) _ 0 _ hown' ad m c _ hln hc h1c (by unfold maxLen; omega) hbyt (Nat.le_refl _)
      rw [rowZ_cat] at h2
      exact ⟨v', w', hr, own_baseZ h2 hbase, h3, fun b hb => .inr ((World.ownsRow.lt h2) b hb).1⟩
    · subst hv
      by_cases hr : n + m ≤ cap
      · obtain ⟨w', hrun, h2, h3⟩ := run_append_fits (P := P) w base S ty T i0 1 hS hi hz1 g n cap _ hown ad m c _ hln hc h1c hr
        rw [rowZ_cat] at h2
        exact ⟨_, w', hrun, h2, h3, fun b hb => .inl hb⟩
      · obtain ⟨v', w', hrun, h2, h3⟩ := run_append_arg_grows (P := P) w S ty T i0 (.int k 0) 1 bytes hS hi hz0 hz1 hz2 rfl (by decide) ⟨g, 0, none⟩ n cap (rowZ k n f) (by rw [rowZ_length]; simp) (fun j u hj => World.ownsRow.cells hown rfl j u hj) ad m c _ hln hc (by omega) (by unfold maxLen; omega) hbyt
        rw [rowZ_cat] at h2
        exact ⟨v', w', hrun, own_baseZ h2 hbase, ⟨h3.os, h3.tape, h3.output, h3.size, fun i hi _ => h3.block i hi (by simp)⟩, fun b hb => .inr ((World.ownsRow.lt h2) b hb).1⟩
set_option maxRecDepth 100000 in
theorem wpList_app_runZ {P : Program} {ops : Array Oper} {rest : List Oper} {o : Oper} {a : Act} {w w' : World} {Q : Exit → Act → World → Prop} {v xv r : Value} (hgd : o.guard = none) (s x : Operand) (t u : TypeId)
    (ho : o.op = .call { callee := .builtin .append, args := #[s, x], argTypes := #[t, u] }) (hs : a.eval s = v) (hx : a.eval x = xv)
    (hr : (Builtin.append_ #[t, u] o.type #[v, xv]).run P w = .ok r w') (h : wpList P ops Q rest (a.put o.dst r) w') : wpList P ops Q (o :: rest) a w :=
  wpList_plain hgd fun _ hK => by
    unfold Oper.wp
    rw [exec_appendM s x t u ho hs hx hr]
    exact hK _ _ h
set_option maxRecDepth 100000 in
/-- append(s, p...) -/
theorem wpList_catZ {P : Program} {S T : TypeId} {k : IntKind} {bytes : Nat} (hS : P.underlying S = some (.slice T)) (hI : (P.info? T).map (fun i => (i.zero, i.size, i.bytes)) = some (some (.int k 0), 1, bytes)) (hby : bytes ≤ 8)
    {ops : Array Oper} {rest : List Oper} {o : Oper} {a : Act} {w : World} {Q : Exit → Act → World → Prop} (hgd : o.guard = none) (s x : Operand)
    (ho : o.op = .call { callee := .builtin .append, args := #[s, x], argTypes := #[S, S] })
    (v : Value) (base n : Nat) (f : Nat → Int) (A : Option Addr) (c m : Nat) (h : Nat → Int) (hs : a.eval s = v) (hx : a.eval x = .slice A m c)
    (hown : OwnZ w base T k v n f) (hA : ZAt w k A m h) (hnone : A = none → m = 0 ∧ c = 0) (hk : n + m ≤ 100000000) (hbase : base ≤ w.heap.size)
    (hq : ∀ v' w', OwnZ w' base T k v' (n + m) (catZ n f h) → w.grownBy w' v.ownBlock → (∀ b, v'.ownBlock = some b → v.ownBlock = some b ∨ w.heap.size ≤ b) → wpList P ops Q rest (a.put o.dst v') w') :
    wpList P ops Q (o :: rest) a w := by
  obtain ⟨v', w', hr, h1, h2, h3⟩ := run_catZ hS hI hby w v base n f hown A c m h hA hnone hk hbase o.type
  exact wpList_app_runZ hgd s x _ _ ho hs hx hr (hq v' w' h1 h2 h3)
set_option maxRecDepth 100000 in
/-- append(s, x), one number -/
theorem wpList_snocZ2 {P : Program} {S T : TypeId} {k : IntKind} {bytes : Nat} (hS : P.underlying S = some (.slice T)) (hI : (P.info? T).map (fun i => (i.zero, i.size, i.bytes)) = some (some (.int k 0), 1, bytes)) (hby : bytes ≤ 8)
    {ops : Array Oper} {rest : List Oper} {o : Oper} {a : Act} {w : World} {Q : Exit → Act → World → Prop} (hgd : o.guard = none) (s x : Operand)
    (ho : o.op = .call { callee := .builtin .append, args := #[s, x], argTypes := #[S, S] })
    (W : World) (v : Value) (base n : Nat) (f : Nat → Int) (u : Int) (hs : a.eval s = v) (hw : w = W.alloc (.cells #[.int k u] T)) (hx : a.eval x = .slice (some ⟨W.heap.size, 0, none⟩) 1 1)
    (hown : OwnZ W base T k v n f) (hn : n ≤ 90000000) (hbase : base ≤ W.heap.size)
    (hq : ∀ v' w', OwnZ w' base T k v' (n + 1) (fun j => if j = n then u else f j) → W.grownBy w' v.ownBlock → (∀ b, v'.ownBlock = some b → v.ownBlock = some b ∨ W.heap.size ≤ b) → wpList P ops Q rest (a.put o.dst v') w') :
    wpList P ops Q (o :: rest) a w := by
  subst hw
  have hb : Below W.heap.size W (W.alloc (.cells #[.int k u] T)) := (Below.refl _ _).alloc (Nat.le_refl _) _
  have hsz : (W.alloc (.cells #[.int k u] T)).heap.size = W.heap.size + 1 := by show (W.heap.push _).size = _; rw [Array.size_push]
  refine wpList_catZ hS hI hby hgd s x ho v base n f (some ⟨W.heap.size, 0, none⟩) 1 1 (fun _ => u) hs hx (hown.below hb) (fun i hi => ⟨W.heap.size, 0, rfl, ?_⟩) (fun e => by cases e) (by omega) (by omega) (fun v' w' h1 h2 h3 => hq v' w' (h1.congr (fun j hj => ?_)) ⟨h2.os, h2.tape, h2.output, by have := h2.size; omega, fun i hi hne => (h2.block i (by omega) hne).trans (Below.heap_alloc W _ i hi)⟩ (fun b hb => (h3 b hb).imp id (by omega)))
  · obtain rfl : i = 0 := by omega
    rw [Nat.zero_add, cell_of_block (last_block0 W (.cells #[.int k u] T) _ rfl)]
    rfl
  · unfold catZ
    by_cases e : j = n
    · subst e; rw [if_neg (by omega), if_pos rfl]
    · rw [if_pos (by omega), if_neg e]
end Go.Proofs.Ytmfagdbocidfjaa
