import Derived.Test.YtmfagdbocidfjaaU03
import Derived.Deep.AppendLies
/- The ring of inputs: an entry more, if there is room. Conditions: what its blocks hold. -/
namespace Go.Proofs.Ytmfagdbocidfjaa
open Go.RowKit
set_option maxRecDepth 100000 in
theorem info_in : (Try.prog.info? 34).map (fun i => (i.zero, i.size, i.bytes)) = some (some (.int .u16 0), 1, 2) := by kernel_rfl
set_option maxRecDepth 100000 in
/-- append(v, x) for a row of inputs -/
theorem i_one {W : World} {lo n : Nat} {v : Value} {xs : List Value} (h : VAt W lo 34 1 v n xs) (hlo : lo ≤ W.heap.size) (hl : n ≤ 100000) (x : Int) (ty : TypeId) :
    ∃ s cap W', (Builtin.append_ #[31, 31] ty #[v, .slice (some ⟨W.heap.size, 0, none⟩) 1 1]).run Try.prog (W.alloc (.cells #[.int .u16 x] 34)) = .ok (.slice s (n + 1) cap) W' ∧ VAt W' lo 34 1 (.slice s (n + 1) cap) (n + 1) (xs ++ [.int .u16 x]) ∧ W.grownBy W' v.ownBlock ∧ (∀ b, (Value.slice s (n + 1) cap).ownBlock = some b → v.ownBlock = some b ∨ W.heap.size ≤ b) := by
  have hB : Below W.heap.size W (W.alloc (.cells #[.int .u16 x] 34)) := (Below.refl _ _).alloc (Nat.le_refl _) _
  have hsz : (W.alloc (.cells #[.int .u16 x] 34)).heap.size = W.heap.size + 1 := by show (W.heap.push _).size = _; rw [Array.size_push]
  have hblk : (W.alloc (.cells #[.int .u16 x] 34)).heap[W.heap.size]? = some (.cells #[.int .u16 x] 34 (0, 0)) := by
    show (W.heap.push _)[W.heap.size]? = _
    simp
  obtain ⟨v', W', hr, hv, hg, hf, _⟩ := v_app (P := Try.prog) (S := 31) (T := 34) Try.underlying31 info_in rfl (by decide) (by decide) (h.below hB) (by omega) ⟨W.heap.size, 0, none⟩ 1 1 [.int .u16 x] rfl (fun j u hj => by
    have : (W.alloc (.cells #[.int .u16 x] 34)).cell? ⟨W.heap.size, j, none⟩ = some u := by rw [cell_of_block hblk]; simpa using hj
    rw [Addr.add_lit, Nat.zero_add]
    exact this) (fun u hu => by rw [List.mem_singleton.1 hu]; rfl) (by omega) ty
  obtain ⟨s, cap, rfl, _⟩ := hv.form
  exact ⟨s, cap, W', hr, hv, only_trans (only_of_below hB _) hg, fun b hb => (hf b hb).imp id (fun e => by omega)⟩
/-- what such a call leaves: the ring, and nothing else has turned -/
def RingIPost (W : World) (lo r room first n : Nat) (v : Value) (xs : List Value) (u : Value) (e : Ending) (W' : World) : Prop :=
  e = .returned u ∧ ∃ v', RingIAt W' lo r room first n v' xs ∧ Touch W W' (fun b => b = r ∨ v.ownBlock = some b) ∧ (∀ b, v'.ownBlock = some b → v.ownBlock = some b ∨ W.heap.size ≤ b)
set_option maxRecDepth 100000 in
theorem VAt.ne {W : World} {lo sz n : Nat} {T U : TypeId} {v : Value} {xs : List Value} (h : VAt W lo T sz v n xs) {r : Nat} {D : Array Value} (hr : W.heap[r]? = some (.cells D U (0, 0))) (hT : T ≠ U) : ∀ b, v.ownBlock = some b → b ≠ r := fun b hb e => by
  obtain ⟨_, C, hC⟩ := h.lt b hb
  subst e
  rw [hC] at hr
  injection hr with hr
  injection hr with _ hr
  exact hT hr
set_option maxRecDepth 100000 in
/-- the row has turned, then the ring is told -/
theorem RingIAt.turn {W W' : World} {lo r room first n m : Nat} {v v' : Value} {xs ys : List Value} (h : RingIAt W lo r room first n v xs) (hg : W.grownBy W' v.ownBlock) (hv : VAt W' lo 34 1 v' m ys) :
    W'.heap[r]? = some (.cells #[.int .i64 (room : Nat), .int .i64 (first : Nat), v] 177 (0, 0)) ∧ RingIAt (W'.setCell ⟨r, 2, none⟩ v') lo r room first m v' ys ∧ Touch W (W'.setCell ⟨r, 2, none⟩ v') (fun b => b = r ∨ v.ownBlock = some b) := by
  have hr : W'.heap[r]? = some (.cells #[.int .i64 (room : Nat), .int .i64 (first : Nat), v] 177 (0, 0)) :=
    (hg.block r (Array.getElem?_eq_some_iff.1 h.blk).1 (fun e => h.row.ne h.blk (by decide) r e.symm rfl)).trans h.blk
  refine ⟨hr, ⟨?_, hv.kept (fun b hb => heap_setCell_other W' ⟨r, 2, none⟩ b _ (hv.ne hr (by decide) b hb)), h.lr⟩, ?_⟩
  · rw [blk_set hr 2 v']; rfl
  · have h1 := Touch.grown (p := fun b => b = r ∨ v.ownBlock = some b) hg (fun b hb => .inr hb)
    exact ⟨h1.os, h1.tape, h1.output, by show _ ≤ ((World.setCell _ _ _)).heap.size; rw [World.size_setCell]; exact h1.size, fun k hk hp => (heap_setCell_other W' ⟨r, 2, none⟩ k _ (fun e => hp (.inl e))).trans (h1.block k hk hp)⟩
set_option maxRecDepth 100000 in
set_option maxHeartbeats 2000000 in
theorem RingI_put (lo r room first n : Nat) (v : Value) (xs : List Value) (x : Int) (w : World) (h : RingIAt w lo r room first n v xs) (hb : first + n ≤ 1000000) (hn : n < room) (hroom : room ≤ 100000) (hlo : lo ≤ w.heap.size) :
    Calls Try.prog 62 #[.pointer (some ⟨r, 0, none⟩), .int .u16 x] w (RingIPost w lo r room first (n + 1) v (xs ++ [.int .u16 x]) (.int .i64 ((first + n : Nat) : Int))) := by
  have hh := Lib.hid h
  have hnx := Lib.hid (RingI_next lo r room first n v xs w h hb)
  obtain ⟨s, cap, rfl, _, _⟩ := h.row.form
  have e1 : ((n : Int) == (room : Int)) = false := by simp; omega
  have e2 : (n == room) = false := by simp; omega
  have hnb : n ≤ 100000 := by omega
  have hlh := Lib.hid hlo
  have hbh := Lib.hid hb
  clear h hlo hb hn
  go_enter Try.func62, Try.ntmps62
  go_wp2_with ((go_at_call 71; refine hnx.out.mono ?_; rintro e w1 ⟨rfl, q, rfl⟩; go_upto_region 2 with (fail)))
  have h1 := Lib.hid (hh.out.drewN q)
  have hT1 : Hid (Touch w (w.drewN q) (fun b => b = r ∨ (Value.slice s n cap).ownBlock = some b)) := hide ((Touch.refl _ _).drewN q)
  have hl1 : Hid (lo ≤ (w.drewN q).heap.size) := hide hlh.out
  clear hnx hh
  generalize w.drewN q = w1 at *
  have c2 := (cell_of_block h1.out.blk (i := 2)).trans rfl
  have c0 := (cell_of_block h1.out.blk (i := 0)).trans rfl
  go_quiet (fail)
  have h2 := Lib.hid (h1.out.drewN nq)
  have hT2 := Lib.hid (hT1.out.drewN nq)
  have hl2 : Hid (lo ≤ (w1.drewN nq).heap.size) := hide hl1.out
  have hsz2 : Hid (w.heap.size ≤ (w1.drewN nq).heap.size) := hide hT1.out.size
  clear h1 hT1 hl1 c2 c0
  generalize w1.drewN nq = w2 at *
  obtain ⟨s6, c6, W6, hr6, hv6, hg6, hf6⟩ := i_one h2.out.row hl2.out hnb x 31
  obtain ⟨hb6, hR6, hT6⟩ := h2.out.turn hg6 hv6
  have hr6h := Lib.hid hr6
  have hend : Hid (RingIPost w lo r room first (n + 1) (.slice s n cap) (xs ++ [.int .u16 x]) (.int .i64 ((first + n : Nat) : Int)) (.returned (.int .i64 ((first + n : Nat) : Int))) (W6.setCell ⟨r, 2, none⟩ (.slice s6 (n + 1) c6))) := hide ⟨rfl, _, hR6, hT2.out.trans (hT6.mono (fun k _ hk => .inl hk)), fun b hb => (hf6 b hb).imp id (fun e => by have := hsz2.out; omega)⟩
  have c2 := (cell_of_block h2.out.blk (i := 2)).trans rfl
  have c26 := (cell_of_block hb6 (i := 2)).trans rfl
  have f26 := frozen_of_row _ r 2 _ _ hb6
  have hc2 : (w2.alloc (.cells #[.int .u16 x] 34)).cell? ⟨r, 2, none⟩ = some (.slice s n cap) := (Below.cell (B := w2.heap.size) ((Below.refl _ _).alloc (Nat.le_refl _) _) (cell_block_lt c2)).trans c2
  clear hr6 hb6 hR6 hT6 hg6 hf6 hv6 h2 hT2 hl2 hsz2
  go_wp2_with (at_builtin; refine wpList_app_runV rfl (.tmp 43) (.tmp 45) _ _ rfl rfl rfl hr6h.out ?_)
  go_ret
  exact hend.out
end Go.Proofs.Ytmfagdbocidfjaa

/- The ring of inputs: the first ones go. Conditions: what its blocks hold. -/
namespace Go.Proofs.Ytmfagdbocidfjaa
open Go.RowKit
set_option maxRecDepth 100000 in
/-- append(v[:0:0], v[k:]...), v not nil -/
theorem v_drop {P : Program} {S T : TypeId} {z : Value} {sz bytes : Nat} (hS : P.underlying S = some (.slice T)) (hI : (P.info? T).map (fun i => (i.zero, i.size, i.bytes)) = some (some z, sz, bytes)) (hzs : z.cells.size = sz) (hsz : 0 < sz) (hby : bytes ≤ 10000)
    {W : World} {lo b off n cap k : Nat} {xs : List Value} (h : VAt W lo T sz (.slice (some ⟨b, off, none⟩) n cap) n xs) (hlo : lo ≤ W.heap.size) (hk : k ≤ n) (hn : n ≤ 1000000) (ad : Addr) (c : Nat) (had : k < n → ad = ⟨b, off + k * sz, none⟩) (ty : TypeId) :
    ∃ s c' W', (Builtin.append_ #[S, S] ty #[.slice (some ⟨b, off, none⟩) 0 0, .slice (some ad) (n - k) c]).run P W = .ok (.slice s (n - k) c') W' ∧ VAt W' lo T sz (.slice s (n - k) c') (n - k) (xs.drop (k * sz)) ∧ W.grownBy W' (some b) ∧ (∀ p, (Value.slice s (n - k) c').ownBlock = some p → some b = some p ∨ W.heap.size ≤ p) := by
  have h0 : VAt W lo T sz (.slice (some ⟨b, off, none⟩) 0 0) 0 [] := by
    refine ⟨by simp, by simp, ?_⟩
    rcases h.2.2 with ⟨h2, _⟩ | ⟨b', off', cap', C, hv, h2, h3, _⟩
    · cases h2
    · cases hv
      exact .inr ⟨b, off, 0, C, rfl, h2, h3, Nat.le_refl _, by unfold maxLen; omega, fun e => absurd e (by omega), fun j u hj => by simp at hj⟩
  have hlen := h.1
  obtain ⟨v', W', hr, hv, hg, hf, _⟩ := v_app (P := P) hS hI hzs hsz hby h0 hlo ad (n - k) c (xs.drop (k * sz)) (by rw [List.length_drop, hlen, Nat.sub_mul]) (fun j u hj => by
    rw [List.getElem?_drop] at hj
    have hlt := (List.getElem?_eq_some_iff.1 hj).1
    have hkn : k < n := by
      rcases Nat.lt_or_ge k n with e | e
      · exact e
      · obtain rfl : k = n := by omega
        omega
    rw [had hkn, Addr.add_lit, show off + k * sz + j = off + (k * sz + j) by omega]
    exact h.cells rfl _ _ hj) (fun u hu => h.2.1 u (List.mem_of_mem_drop hu)) (by omega) ty
  rw [Nat.zero_add, List.nil_append] at hv
  obtain ⟨s, c', rfl, _⟩ := hv.form
  exact ⟨s, c', W', hr, hv, hg, hf⟩
set_option maxRecDepth 100000 in
/-- in a region that draws its order: an append whose run is known -/
theorem step_app_run {P : Program} {ops : Array Oper} {o : Oper} {a : Act} {w w' : World} {K : Act → World → Prop} {Q : Exit → Act → World → Prop} {E : Prop} {v xv r : Value} (hgd : o.guard = none) (s x : Operand) (t u : TypeId)
    (ho : o.op = .call { callee := .builtin .append, args := #[s, x], argTypes := #[t, u] }) (hs : a.eval s = v) (hx : a.eval x = xv) (hr : (Builtin.append_ #[t, u] o.type #[v, xv]).run P w = .ok r w') (h : K (a.put o.dst r) w') :
    if Region.wanted o (yielded ops a.tmps) = true then Oper.wp P o a w K Q else E := by
  have hw : Region.wanted o (yielded ops a.tmps) = true := by simp [Region.wanted, hgd]
  rw [if_pos hw]
  unfold Oper.wp
  rw [exec_appendV s x t u ho hs hx hr]
  exact h
/-- nothing comes back, nothing has turned -/
def SamePost (w : World) (e : Ending) (w' : World) : Prop := e = .returned (.tuple #[]) ∧ w = w'
set_option maxRecDepth 100000 in
theorem RingIAt.setFirst {W : World} {lo r room first n m : Nat} {v : Value} {xs : List Value} (h : RingIAt W lo r room first n v xs) : RingIAt (W.setCell ⟨r, 1, none⟩ (.int .i64 (m : Nat))) lo r room m n v xs ∧ Touch W (W.setCell ⟨r, 1, none⟩ (.int .i64 (m : Nat))) (fun b => b = r) := by
  refine ⟨⟨?_, h.row.kept (fun b hb => heap_setCell_other W ⟨r, 1, none⟩ b _ (h.row.ne h.blk (by decide) b hb)), h.lr⟩, ?_⟩
  · rw [blk_set h.blk 1 _]; rfl
  · exact Touch.grown (only_set (only_refl W (some r)) 1 _) (fun b hb => by injection hb with hb; exact hb.symm)
/-- so many go -/
def dropK (first n : Nat) (below : Int) : Nat := if below ≤ (first : Int) then 0 else min (below - first).toNat n
set_option maxRecDepth 100000 in
set_option maxHeartbeats 4000000 in
theorem RingI_drop_no (lo r room first n : Nat) (v : Value) (xs : List Value) (below : Int) (w : World) (h : RingIAt w lo r room first n v xs) (hb : below ≤ (first : Int)) :
    Calls Try.prog 74 #[.pointer (some ⟨r, 0, none⟩), .int .i64 below] w (SamePost w) := by
  have c1 : w.cell? ⟨r, 1, none⟩ = some (.int .i64 (first : Nat)) := (cell_of_block h.blk (i := 1)).trans rfl
  have d : decide (below ≤ (first : Int)) = true := decide_eq_true hb
  clear h hb
  go_enter Try.func74, Try.ntmps74
  go_wp2_with fail
  go_end0
  exact ⟨rfl, rfl⟩
set_option maxRecDepth 100000 in
set_option maxHeartbeats 4000000 in
theorem RingI_drop (lo r room first n b off cap : Nat) (xs : List Value) (below : Int) (k : Nat) (w : World) (h : RingIAt w lo r room first n (.slice (some ⟨b, off, none⟩) n cap) xs) (hlo : lo ≤ w.heap.size) (hn : first + n ≤ 100000) (hb : (first : Int) < below) (hb2 : below ≤ 1000000) (hk : k = min (below - first).toNat n) :
    Calls Try.prog 74 #[.pointer (some ⟨r, 0, none⟩), .int .i64 below] w (RingIPost w lo r room (first + k) (n - k) (.slice (some ⟨b, off, none⟩) n cap) (xs.drop k) (.tuple #[])) := by
  have hcap : n ≤ cap := by obtain ⟨_, _, e, h2, _⟩ := h.row.form; cases e; exact h2
  have c1 : w.cell? ⟨r, 1, none⟩ = some (.int .i64 (first : Nat)) := (cell_of_block h.blk (i := 1)).trans rfl
  have c2 : w.cell? ⟨r, 2, none⟩ = some (.slice (some ⟨b, off, none⟩) n cap) := (cell_of_block h.blk (i := 2)).trans rfl
  have d : decide (below ≤ (first : Int)) = false := decide_eq_false (by omega)
  have hs : IntKind.i64.wrap (below - (first : Int)) = below - (first : Int) := IntWalk.i64_in _ (by omega)
  have hkn : k ≤ n := by omega
  have hm : min (below - (first : Int)) (n : Int) = (k : Int) := by omega
  have hh := Lib.hid h
  have hkh := Lib.hid hk
  clear h hk
  go_enter Try.func74, Try.ntmps74
  go_upto_region 1 with (fail)
  go_cut [4] (fun v4 wx => v4 = .int .i64 (k : Nat) ∧ wx = w.drew)
  case first =>
    go_region
    go_wp2_with fail
    all_goals
      go_meet
      exact ⟨by congr 1; omega, rfl⟩
  case rest =>
    obtain ⟨rfl, rfl⟩ := hcut
    have h2 : Hid (RingIAt w.drew.drew lo r room first n (.slice (some ⟨b, off, none⟩) n cap) xs) := hide (hh.out.drewN 2)
    have c2' : w.drew.drew.cell? ⟨r, 2, none⟩ = some (.slice (some ⟨b, off, none⟩) n cap) := c2
    obtain ⟨ad, had, hadd⟩ : ∃ ad : Addr, (if cap = k then (⟨b, off, none⟩ : Addr) else ⟨b, off + k, none⟩) = ad ∧ (k < n → ad = ⟨b, off + k * 1, none⟩) := ⟨_, rfl, fun e => by rw [if_neg (by omega), Nat.mul_one]⟩
    obtain ⟨s6, c6, W6, hr6, hv6, hg6, hf6⟩ := v_drop (P := Try.prog) (S := 31) (T := 34) Try.underlying31 info_in rfl (by decide) (by decide) h2.out.row hlo hkn (by omega) ad (cap - k) hadd 31
    clear c1 d hs hm hb hb2
    have hr6h := Lib.hid hr6
    obtain ⟨hb6, hR6, hT6⟩ := h2.out.turn hg6 hv6
    have c26 : W6.cell? ⟨r, 2, none⟩ = some (.slice (some ⟨b, off, none⟩) n cap) := (cell_of_block hb6 (i := 2)).trans rfl
    have f26 := frozen_of_row _ r 2 _ _ hb6
    have hR6h := Lib.hid hR6
    have hT6h := Lib.hid hT6
    have hf6h := Lib.hid hf6
    clear hr6 hv6 hg6 hf6 hb6 hR6 hT6 h2 hadd
    go_upto_region 2 with (fail)
    go_cut [] (fun wx => wx = W6.setCell ⟨r, 2, none⟩ (.slice s6 (n - k) c6))
    case first =>
      by_cases hck : cap = k
      · obtain rfl : n = k := by omega
        subst hck
        rw [if_pos rfl] at had
        subst had
        rw [Nat.sub_self] at hr6h ⊢
        go_region_law (first | (refine step_app_run rfl (.tmp 28) (.tmp 34) _ _ rfl rfl rfl hr6h.out ?_))
        all_goals
          go_wp2_with fail
          go_meet
          rw [Nat.sub_self]
      · rw [if_neg hck] at had
        subst had
        have hck2 : ¬ (cap : Int) = (k : Int) := by omega
        go_region_law (first | (refine step_app_run rfl (.tmp 28) (.tmp 34) _ _ rfl rfl rfl hr6h.out ?_))
        all_goals
          go_wp2_with fail
          go_meet
          rfl
    case rest =>
      subst hcut
      have hend : Hid (RingIPost w lo r room (first + k) (n - k) (.slice (some ⟨b, off, none⟩) n cap) (xs.drop k) (.tuple #[]) (.returned (.tuple #[])) ((W6.setCell ⟨r, 2, none⟩ (.slice s6 (n - k) c6)).setCell ⟨r, 1, none⟩ (.int .i64 ((first + k : Nat) : Int)))) := hide (by
        obtain ⟨q1, q2⟩ := hR6h.out.setFirst (m := first + k)
        rw [Nat.mul_one] at q1
        exact ⟨rfl, _, q1, ((Touch.refl w _).drewN 2).trans ((hT6h.out.trans (q2.mono (fun j _ hj => .inl (.inl hj)))).mono (fun j _ hj => .inl hj)), fun p hp => (hf6h.out p hp).imp id (fun e => e)⟩)
      have c1 : (W6.setCell ⟨r, 2, none⟩ (.slice s6 (n - k) c6)).cell? ⟨r, 1, none⟩ = some (.int .i64 (first : Nat)) := (cell_of_block hR6h.out.blk (i := 1)).trans rfl
      have f1 := frozen_of_row _ r 1 _ _ hR6h.out.blk
      clear hR6h hT6h hf6h hr6h c26 f26 c2 c2' hh
      generalize World.setCell W6 _ _ = W7 at *
      rw [show ((first + k : Nat) : Int) = (first : Int) + (k : Int) by omega] at hend
      go_wp2_with fail
      go_end0
      exact hend.out
end Go.Proofs.Ytmfagdbocidfjaa

/- The ring of inputs: an entry is read. Conditions: what its blocks hold. -/
namespace Go.Proofs.Ytmfagdbocidfjaa
open Go.RowKit
/-- an answer; nothing has turned but what was drawn -/
def DrawPost (w : World) (u : Value) (e : Ending) (w' : World) : Prop := e = .returned u ∧ ∃ q, w' = w.drewN q
set_option maxRecDepth 100000 in
set_option maxHeartbeats 2000000 in
theorem RingI_at (lo r room first n : Nat) (v : Value) (xs : List Value) (j : Nat) (x : Int) (w : World) (h : RingIAt w lo r room first n v xs) (hb : first + n ≤ 100000) (hj : j < n) (hx : xs[j]? = some (.int .u16 x)) :
    Calls Try.prog 72 #[.pointer (some ⟨r, 0, none⟩), .int .i64 ((first + j : Nat) : Int)] w (DrawPost w (.tuple #[.int .u16 x, .int .i64 0])) := by
  have hp := Lib.hid (RingI_place lo r room first n v xs ((first + j : Nat) : Int) w h (by omega) (by omega))
  have hr : ringP first n ((first + j : Nat) : Int) = (j : Int) := by unfold ringP; rw [if_neg (by omega)]; omega
  rw [hr] at hp
  rcases h.row.2.2 with ⟨_, h0⟩ | ⟨b, off, cap, C, rfl, _⟩
  · omega
  have c2 : w.cell? ⟨r, 2, none⟩ = some (.slice (some ⟨b, off, none⟩) n cap) := (cell_of_block h.blk (i := 2)).trans rfl
  have cx : w.cell? ⟨b, off + j, none⟩ = some (.int .u16 x) := h.row.cells rfl j _ hx
  have j1 : (j : Int) < (n : Int) := by omega
  clear h hb hx hr
  go_enter Try.func72, Try.ntmps72
  go_wp2_with fail
  refine hp.out.mono ?_
  rintro e w1 ⟨rfl, q, rfl⟩
  go_wp2_with fail
  go_ret2
  exact ⟨rfl, _, rfl⟩
set_option maxRecDepth 100000 in
set_option maxHeartbeats 2000000 in
theorem RingI_at_old (lo r room first n : Nat) (v : Value) (xs : List Value) (i : Int) (w : World) (h : RingIAt w lo r room first n v xs) (hb : first + n ≤ 100000) (hi : i < (first : Int)) (h0 : -1000000 ≤ i) :
    Calls Try.prog 72 #[.pointer (some ⟨r, 0, none⟩), .int .i64 i] w (DrawPost w (.tuple #[.int .u16 0, .int .i64 90])) := by
  have hp := Lib.hid (RingI_place lo r room first n v xs i w h (by omega) (by omega))
  have hr : ringP first n i = -1 := by unfold ringP; rw [if_pos (.inl hi)]
  rw [hr] at hp
  have c1 : w.cell? ⟨r, 1, none⟩ = some (.int .i64 (first : Nat)) := (cell_of_block h.blk (i := 1)).trans rfl
  have d1 : decide (i < (first : Int)) = true := decide_eq_true hi
  clear h hb hr h0
  go_enter Try.func72, Try.ntmps72
  go_wp2_with fail
  refine hp.out.mono ?_
  rintro e w1 ⟨rfl, q, rfl⟩
  go_wp2_with fail
  go_ret2
  exact ⟨rfl, _, rfl⟩
set_option maxRecDepth 100000 in
set_option maxHeartbeats 2000000 in
theorem RingI_at_none (lo r room first n : Nat) (v : Value) (xs : List Value) (i : Int) (w : World) (h : RingIAt w lo r room first n v xs) (hb : first + n ≤ 100000) (hi : (first : Int) + n ≤ i) (h0 : i ≤ 1000000) :
    Calls Try.prog 72 #[.pointer (some ⟨r, 0, none⟩), .int .i64 i] w (DrawPost w (.tuple #[.int .u16 0, .int .i64 91])) := by
  have hp := Lib.hid (RingI_place lo r room first n v xs i w h (by omega) (by omega))
  have hr : ringP first n i = -1 := by unfold ringP; rw [if_pos (.inr hi)]
  rw [hr] at hp
  have c1 : w.cell? ⟨r, 1, none⟩ = some (.int .i64 (first : Nat)) := (cell_of_block h.blk (i := 1)).trans rfl
  have d1 : decide (i < (first : Int)) = false := decide_eq_false (by omega)
  clear h hb hr h0
  go_enter Try.func72, Try.ntmps72
  go_wp2_with fail
  refine hp.out.mono ?_
  rintro e w1 ⟨rfl, q, rfl⟩
  go_wp2_with fail
  go_ret2
  exact ⟨rfl, _, rfl⟩
end Go.Proofs.Ytmfagdbocidfjaa

/- The ring of inputs: an entry is set. Conditions: what its blocks hold. -/
namespace Go.Proofs.Ytmfagdbocidfjaa
open Go.RowKit
set_option maxRecDepth 100000 in
theorem VAt.set1 {W : World} {lo b off n cap j : Nat} {T : TypeId} {xs : List Value} {x : Value} (h : VAt W lo T 1 (.slice (some ⟨b, off, none⟩) n cap) n xs) (hj : j < n) (hx : x.oneCell' = true) :
    VAt (W.setCell ⟨b, off + j, none⟩ x) lo T 1 (.slice (some ⟨b, off, none⟩) n cap) n (xs.set j x) := by
  refine ⟨by rw [List.length_set]; exact h.1, fun u hu => ?_, ?_⟩
  · rcases List.mem_or_eq_of_mem_set hu with hu | rfl
    · exact h.2.1 u hu
    · exact hx
  · rcases h.2.2 with ⟨h2, _⟩ | ⟨b', off', cap', C, hv, h2, h3, h4, h5, h6, h7⟩
    · cases h2
    · cases hv
      refine .inr ⟨b, off, cap, C.setIfInBounds (off + j) x, rfl, h2, blk_set h3 _ _, h4, h5, fun hc => by rw [Array.size_setIfInBounds]; exact h6 hc, fun i u hi => ?_⟩
      have hC := h6 (by omega)
      rw [List.getElem?_set] at hi
      rw [Array.getElem?_setIfInBounds]
      by_cases e : j = i
      · subst e
        have hjl : j < xs.length := by have := h.1; omega
        rw [if_pos rfl, if_pos hjl] at hi
        rw [if_pos rfl, if_pos (by omega)]
        exact hi
      · rw [if_neg e] at hi
        rw [if_neg (by omega)]
        exact h7 i u hi
set_option maxRecDepth 100000 in
set_option maxHeartbeats 4000000 in
theorem RingI_set (lo r room first n b off cap : Nat) (xs : List Value) (j : Nat) (x y : Int) (w : World) (h : RingIAt w lo r room first n (.slice (some ⟨b, off, none⟩) n cap) xs) (hb : first + n ≤ 100000) (hj : j < n) (hx : xs[j]? = some (.int .u16 y)) :
    Calls Try.prog 93 #[.pointer (some ⟨r, 0, none⟩), .int .i64 ((first + j : Nat) : Int), .int .u16 x] w (RingIPost w lo r room first n (.slice (some ⟨b, off, none⟩) n cap) (xs.set j (.int .u16 x)) (.int .i64 0)) := by
  have hat := Lib.hid (RingI_at lo r room first n _ xs j y w h hb hj hx)
  have hr : ringP first n ((first + j : Nat) : Int) = (j : Int) := by unfold ringP; rw [if_neg (by omega)]; omega
  have hp : Hid (∀ q, Calls Try.prog 91 #[.pointer (some ⟨r, 0, none⟩), .int .i64 ((first + j : Nat) : Int)] (w.drewN q) fun e w' => e = .returned (.int .i64 (j : Nat)) ∧ ∃ q', w' = (w.drewN q).drewN q') := hide (fun q => by
    have := RingI_place lo r room first n _ xs ((first + j : Nat) : Int) (w.drewN q) (h.drewN q) (by omega) (by omega)
    rw [hr] at this
    exact this)
  have hbr : b ≠ r := h.row.ne h.blk (by decide) b rfl
  have hh := Lib.hid h
  have c2 : w.cell? ⟨r, 2, none⟩ = some (.slice (some ⟨b, off, none⟩) n cap) := (cell_of_block h.blk (i := 2)).trans rfl
  have cx : w.cell? ⟨b, off + j, none⟩ = some (.int .u16 y) := h.row.cells rfl j _ hx
  have fx : w.frozen? ⟨b, off + j, none⟩ = false := by
    rcases h.row.2.2 with ⟨h2, _⟩ | ⟨b', off', cap', C, hv, h2, h3, _⟩
    · cases h2
    · cases hv
      exact frozen_of_row _ _ _ _ _ h3
  have j1 : (j : Int) < (n : Int) := by omega
  have hset : Hid (∀ q, RingIPost w lo r room first n (.slice (some ⟨b, off, none⟩) n cap) (xs.set j (.int .u16 x)) (.int .i64 0) (.returned (.int .i64 0)) ((w.drewN q).setCell ⟨b, off + j, none⟩ (.int .u16 x))) := hide (fun q =>
    ⟨rfl, _, ⟨(heap_setCell_other (w.drewN q) ⟨b, off + j, none⟩ r _ (Ne.symm hbr)).trans h.blk, (h.drewN q).row.set1 hj rfl, h.lr⟩,
     Touch.grown (only_set (only_of_below (below_drewN (Below.refl _ _) q) (some b)) (off + j) _) (fun p hp => .inr hp), fun p hp => .inl hp⟩)
  clear h hb hx hr
  go_enter Try.func93, Try.ntmps93
  go_wp2_with fail
  refine hat.out.mono ?_
  rintro e w1 ⟨rfl, q, rfl⟩
  go_upto_region 4 with (fail)
  have hHeld : (fun z : World => z.cell? ⟨r, 2, none⟩ = some (.slice (some ⟨b, off, none⟩) n cap)) (w.drewN (q + 1)) := c2
  refine h_begin 10 (fun z : World => z.cell? ⟨r, 2, none⟩ = some (.slice (some ⟨b, off, none⟩) n cap)) rfl (by kernel_rfl) hHeld ?_
  first
    | (refine h_run (i := 0) (v := ?_) hHeld rfl (by kernel_rfl) (by kernel_rfl) (by kernel_rfl) ?_ ?_ ?_
       rotate_left
       · rfl
       · (intro x hSx; (try dsimp only at hSx); go_simp <;> with_reducible rfl)
       simp only [Act.put, List.setIfInBounds_toArray, List.set_cons_zero, List.set_cons_succ])
    | (refine h_skip (i := 0) hHeld rfl (by kernel_rfl) (by kernel_rfl) (by kernel_rfl) ?_ ?_
       · rfl
       simp only [Act.put, List.setIfInBounds_toArray, List.set_cons_zero, List.set_cons_succ])
  first
    | (refine h_run (i := 1) (v := ?_) hHeld rfl (by kernel_rfl) (by kernel_rfl) (by kernel_rfl) ?_ ?_ ?_
       rotate_left
       · rfl
       · (intro x hSx; (try dsimp only at hSx); go_simp <;> with_reducible rfl)
       simp only [Act.put, List.setIfInBounds_toArray, List.set_cons_zero, List.set_cons_succ])
    | (refine h_skip (i := 1) hHeld rfl (by kernel_rfl) (by kernel_rfl) (by kernel_rfl) ?_ ?_
       · rfl
       simp only [Act.put, List.setIfInBounds_toArray, List.set_cons_zero, List.set_cons_succ])
  first
    | (refine h_run (i := 2) (v := ?_) hHeld rfl (by kernel_rfl) (by kernel_rfl) (by kernel_rfl) ?_ ?_ ?_
       rotate_left
       · rfl
       · (intro x hSx; (try dsimp only at hSx); go_simp <;> with_reducible rfl)
       simp only [Act.put, List.setIfInBounds_toArray, List.set_cons_zero, List.set_cons_succ])
    | (refine h_skip (i := 2) hHeld rfl (by kernel_rfl) (by kernel_rfl) (by kernel_rfl) ?_ ?_
       · rfl
       simp only [Act.put, List.setIfInBounds_toArray, List.set_cons_zero, List.set_cons_succ])
  first
    | (refine h_run (i := 3) (v := ?_) hHeld rfl (by kernel_rfl) (by kernel_rfl) (by kernel_rfl) ?_ ?_ ?_
       rotate_left
       · rfl
       · (intro x hSx; (try dsimp only at hSx); go_simp <;> with_reducible rfl)
       simp only [Act.put, List.setIfInBounds_toArray, List.set_cons_zero, List.set_cons_succ])
    | (refine h_skip (i := 3) hHeld rfl (by kernel_rfl) (by kernel_rfl) (by kernel_rfl) ?_ ?_
       · rfl
       simp only [Act.put, List.setIfInBounds_toArray, List.set_cons_zero, List.set_cons_succ])
  first
    | (refine h_run (i := 4) (v := ?_) hHeld rfl (by kernel_rfl) (by kernel_rfl) (by kernel_rfl) ?_ ?_ ?_
       rotate_left
       · rfl
       · (intro x hSx; (try dsimp only at hSx); go_simp <;> with_reducible rfl)
       simp only [Act.put, List.setIfInBounds_toArray, List.set_cons_zero, List.set_cons_succ])
    | (refine h_skip (i := 4) hHeld rfl (by kernel_rfl) (by kernel_rfl) (by kernel_rfl) ?_ ?_
       · rfl
       simp only [Act.put, List.setIfInBounds_toArray, List.set_cons_zero, List.set_cons_succ])
  first
    | (refine h_run (i := 5) (v := ?_) hHeld rfl (by kernel_rfl) (by kernel_rfl) (by kernel_rfl) ?_ ?_ ?_
       rotate_left
       · rfl
       · (intro x hSx; (try dsimp only at hSx); go_simp <;> with_reducible rfl)
       simp only [Act.put, List.setIfInBounds_toArray, List.set_cons_zero, List.set_cons_succ])
    | (refine h_skip (i := 5) hHeld rfl (by kernel_rfl) (by kernel_rfl) (by kernel_rfl) ?_ ?_
       · rfl
       simp only [Act.put, List.setIfInBounds_toArray, List.set_cons_zero, List.set_cons_succ])
  first
    | (refine h_run (i := 7) (v := ?_) hHeld rfl (by kernel_rfl) (by kernel_rfl) (by kernel_rfl) ?_ ?_ ?_
       rotate_left
       · rfl
       · (intro x hSx; (try dsimp only at hSx); go_simp <;> with_reducible rfl)
       simp only [Act.put, List.setIfInBounds_toArray, List.set_cons_zero, List.set_cons_succ])
    | (refine h_skip (i := 7) hHeld rfl (by kernel_rfl) (by kernel_rfl) (by kernel_rfl) ?_ ?_
       · rfl
       simp only [Act.put, List.setIfInBounds_toArray, List.set_cons_zero, List.set_cons_succ])
  refine h_call (i := 6) (fun z : World => z.cell? ⟨r, 2, none⟩ = some (.slice (some ⟨b, off, none⟩) n cap)) (fun _ h => h) (hp.out (q + 1)) rfl (by kernel_rfl) rfl ?_ ?_
  · go_simp <;> with_reducible rfl
  rintro _ w2 ⟨rfl, q2, hw2⟩
  have hw3 : w2 = w.drewN (q + 1 + q2) := hw2.trans (World.drewN_drewN _ _ _)
  subst hw3
  clear hw2
  have hHeld : (fun z : World => z.cell? ⟨r, 2, none⟩ = some (.slice (some ⟨b, off, none⟩) n cap)) (w.drewN (q + 1 + q2)) := c2
  refine ⟨_, rfl, hHeld, ?_⟩
  simp only [Act.put, List.setIfInBounds_toArray, List.set_cons_zero, List.set_cons_succ]
  first
    | (refine h_run (i := 8) (v := ?_) hHeld rfl (by kernel_rfl) (by kernel_rfl) (by kernel_rfl) ?_ ?_ ?_
       rotate_left
       · rfl
       · (intro x hSx; (try dsimp only at hSx); go_simp <;> with_reducible rfl)
       simp only [Act.put, List.setIfInBounds_toArray, List.set_cons_zero, List.set_cons_succ])
    | (refine h_skip (i := 8) hHeld rfl (by kernel_rfl) (by kernel_rfl) (by kernel_rfl) ?_ ?_
       · rfl
       simp only [Act.put, List.setIfInBounds_toArray, List.set_cons_zero, List.set_cons_succ])
  have hs9 := hset.out (q + 1 + q2)
  have hs9h := Lib.hid hs9
  have cx9 : (w.drewN (q + 1 + q2)).cell? ⟨b, off + j, none⟩ = some (.int .u16 y) := cx
  have fx9 : (w.drewN (q + 1 + q2)).frozen? ⟨b, off + j, none⟩ = false := fx
  have c29 : ((w.drewN (q + 1 + q2)).setCell ⟨b, off + j, none⟩ (.int .u16 x)).cell? ⟨r, 2, none⟩ = some (.slice (some ⟨b, off, none⟩) n cap) := (World.cell?_setCell_far _ ⟨b, off + j, none⟩ ⟨r, 2, none⟩ _ hbr).trans c2
  clear hs9
  refine h_write (i := 9) (w' := (w.drewN (q + 1 + q2)).setCell ⟨b, off + j, none⟩ (.int .u16 x)) (fun z : World => z.cell? ⟨r, 2, none⟩ = some (.slice (some ⟨b, off, none⟩) n cap)) (fun _ h => h) rfl (by kernel_rfl) rfl ?_ c29 ?_
  · go_simp <;> with_reducible rfl
  refine h_done (by kernel_rfl) ?_
  clear hHeld cx9 fx9 c29 c2 cx fx
  generalize World.setCell _ _ _ = w9 at *
  go_wp2_with fail
  go_ret
  exact hs9h.out
end Go.Proofs.Ytmfagdbocidfjaa
