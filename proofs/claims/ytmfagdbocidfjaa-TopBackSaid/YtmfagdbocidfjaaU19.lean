import Derived.Test.YtmfagdbocidfjaaU18
import Derived.Test.YtmfagdbocidfjaaU16
import Derived.Test.YtmfagdbocidfjaaU05
/- A state's sum. Conditions: none but the state's form. -/
namespace Go.Proofs.Ytmfagdbocidfjaa
open Go.RowKit
attribute [local irreducible] stA RowN blk wLoad wLoadRes loadAns wStore wStoreRes storeAns Plain
attribute [local go_sem ↓] ld_st0 sto_st0
attribute [local go_sem] ld_st sto_st loadAns_some storeAns_some stA_size st_plain blk_alloc_if blk_setRow_if blk_drew_at blk_drewN_at rowPut_some
set_option maxRecDepth 100000 in
set_option maxHeartbeats 4000000 in
theorem g_sum (S : Nat → Int) (w : World) : Calls Try.prog 70 #[.agg (stA S)] w fun e w' => ∃ h, e = .returned (.int .u32 h) ∧ Below w.heap.size w w' := by
  have hb0 : blk (w.alloc (.cells (stA S) 49)) w.heap.size = some (.cells (stA S) 49 (0, 0)) := blk_of (last0 _ _ _ rfl)
  have hB : Hid (Below w.heap.size w (w.alloc (.cells (stA S) 49))) := hide ((Below.refl _ _).alloc (Nat.le_refl _) _)
  go_enter Try.func70, Try.ntmps70
  go_upto_region 2 with (fail)
  generalize World.alloc w _ = W0 at *
  obtain ⟨g, hg⟩ : ∃ g, w.heap.size = g := ⟨_, rfl⟩
  have hgh := Lib.hid hg
  rw [hg] at hb0 ⊢
  clear hg
  go_wp2_with fail
  refine (g_bytes S W0).mono ?_
  rintro e W1 h1
  obtain ⟨s, n, cap, rfl, hrow, hn, hB1⟩ := h1
  have hrh := Lib.hid hrow
  have hB9 : Hid (Below w.heap.size w W1) := hide (hB.out.trans (hB1.mono hB.out.size))
  clear hrow hB hB1 hb0
  have hcell := Lib.hid (fun j (hj : j < n) => hrh.out.cell hj)
  clear hrh
  go_upto_region 3 with (fail)
  go_loopw [3, 9] (fun v3 v9 wr => ∃ (j : Nat) (h : Int), j ≤ n ∧ v9 = .int .i64 (j : Nat) ∧ v3 = .int .u32 h ∧ Hid (W1 = wr)) (fun _ v9 _ => n - (intOf v9).toNat)
  case atStart => exact ⟨0, 2166136261, by omega, rfl, rfl, hide rfl⟩
  case round =>
    obtain ⟨j, h, hj, rfl, rfl, hW⟩ := hrel
    by_cases hjn : j < n
    · have i1 : (j : Int) < (n : Int) := by omega
      obtain ⟨b, off, x, rfl, hc⟩ := hcell.out j hjn
      rw [hW.out] at hc
      go_wp2_with fail
      go_roundw
      case rel => exact ⟨j + 1, _, by omega, by go_num, rfl, hW⟩
      case measure => simp [intOf]; omega
    · obtain rfl : j = n := by omega
      have i1 : decide ((j : Int) < (j : Int)) = false := by simp
      have hB10 : Hid (Below w.heap.size w wr) := hide (by rw [← hW.out]; exact hB9.out)
      go_wp2_with fail
      go_ret
      exact ⟨h, rfl, hB10.out⟩
end Go.Proofs.Ytmfagdbocidfjaa

/- Saved states as they lie in a ring: entries of a state and its sum. Lemmas alone. -/
namespace Go.Proofs.Ytmfagdbocidfjaa
open Go.RowKit
/-- an entry: a state, and its sum -/
def entA (S : Nat → Int) (h : Int) : Array Value := (stA S).push (.int .u32 h)
set_option maxRecDepth 100000 in
theorem entA_size (S : Nat → Int) (h : Int) : (entA S h).size = 67 := by unfold entA; rw [Array.size_push, stA_size]
set_option maxRecDepth 100000 in
theorem entA_plain (S : Nat → Int) (h : Int) : Plain (entA S h) := by
  have := st_plain S
  unfold Plain at this ⊢
  unfold entA
  rw [Array.all_push, this]
  rfl
set_option maxRecDepth 100000 in
theorem en_info : (Try.prog.info? 150).map (·.size) = some 67 := by kernel_rfl
set_option maxRecDepth 100000 in
theorem en_info2 : (Try.prog.info? 150).map (fun i => (i.zero, i.size, i.bytes)) = some (some (.agg (entA (fun _ => 0) 0)), 67, 536) := by kernel_rfl
set_option maxRecDepth 100000 in
theorem zeroEnt (w : World) : (zeroValue 150).run Try.prog w = .ok (.agg (entA (fun _ => 0) 0)) w := by kernel_rfl
def eBuild (parts : Array (Nat × Value)) : Sem Value := Instr.build 150 parts
set_option maxRecDepth 100000 in
theorem eBuild_of (parts : Array (Nat × Value)) : Instr.build 150 parts = eBuild parts := by unfold eBuild; rfl
set_option maxRecDepth 100000 in
set_option maxHeartbeats 2000000 in
theorem eBuild_2 (S : Nat → Int) (h : Int) (w : World) : (eBuild #[(0, .agg (stA S)), (1, .int .u32 h)]).run Try.prog w = .ok (.agg (entA S h)) w := by kernel_rfl
def eSlice (parts : Array (Nat × Value)) : Sem Value := Instr.buildSlice 178 1 parts
set_option maxRecDepth 100000 in
theorem eSlice_of (parts : Array (Nat × Value)) : Instr.buildSlice 178 1 parts = eSlice parts := by unfold eSlice; rfl
set_option maxRecDepth 100000 in
set_option maxHeartbeats 2000000 in
theorem eSlice_1 (S : Nat → Int) (h : Int) (w : World) : (eSlice #[(0, .agg (entA S h))]).run Try.prog w = .ok (.slice (some ⟨w.heap.size, 0, none⟩) 1 1) (w.alloc (.cells (entA S h) 150)) := by kernel_rfl
set_option maxRecDepth 100000 in
theorem ld_en0 (v : Value) : Instr.loadAt 150 v = wLoad 150 v := rfl
set_option maxRecDepth 100000 in
theorem ld_en (w : World) (b : Nat) : (wLoad 150 (.pointer (some ⟨b, 0, none⟩))).run Try.prog w = loadAns 67 w (blk w b) (wLoadRes Try.prog 150 b w) := run_wLoad Try.underlying150 rfl en_info w b
set_option maxRecDepth 100000 in
theorem sto_en0 (p x : Value) : Instr.storeAt 150 p x = wStore 150 p x := rfl
set_option maxRecDepth 100000 in
theorem sto_en (w : World) (b : Nat) (C : Array Value) : (wStore 150 (.pointer (some ⟨b, 0, none⟩)) (.agg C)).run Try.prog w = storeAns 67 w b C (blk w b) (wStoreRes Try.prog 150 b C w) := run_wStore en_info w b C
attribute [local irreducible] entA stA
/-- entries one behind the other -/
def enRow (L : List ((Nat → Int) × Int)) : List Value := L.flatMap fun e => (entA e.1 e.2).toList
set_option maxRecDepth 100000 in
theorem enRow_cons (e : (Nat → Int) × Int) (L : List ((Nat → Int) × Int)) : enRow (e :: L) = (entA e.1 e.2).toList ++ enRow L := by unfold enRow; rw [List.flatMap_cons]
set_option maxRecDepth 100000 in
theorem enRow_len (L : List ((Nat → Int) × Int)) : (enRow L).length = L.length * 67 := by
  induction L with
  | nil => rfl
  | cons e L ih => rw [enRow_cons, List.length_append, ih, Array.length_toList, entA_size, List.length_cons]; omega
set_option maxRecDepth 100000 in
theorem enRow_app (A B : List ((Nat → Int) × Int)) : enRow (A ++ B) = enRow A ++ enRow B := by unfold enRow; rw [List.flatMap_append]
set_option maxRecDepth 100000 in
theorem enRow_one (S : Nat → Int) (h : Int) : enRow [(S, h)] = (entA S h).toList := by rw [enRow_cons]; show _ ++ [] = _; rw [List.append_nil]
set_option maxRecDepth 100000 in
theorem enRow_drop (L : List ((Nat → Int) × Int)) (k : Nat) : enRow (L.drop k) = (enRow L).drop (k * 67) := by
  rcases Nat.lt_or_ge L.length k with h | h
  · rw [List.drop_eq_nil_of_le (by omega), List.drop_eq_nil_of_le (by rw [enRow_len]; omega)]; rfl
  · conv => rhs; rw [← List.take_append_drop k L, enRow_app]
    rw [List.drop_left' (by rw [enRow_len, List.length_take, Nat.min_eq_left h])]
set_option maxRecDepth 100000 in
theorem enRow_take (L : List ((Nat → Int) × Int)) (k : Nat) : enRow (L.take k) = (enRow L).take (k * 67) := by
  rcases Nat.lt_or_ge L.length k with h | h
  · rw [List.take_of_length_le (by omega), List.take_of_length_le (by rw [enRow_len]; omega)]
  · conv => rhs; rw [← List.take_append_drop k L, enRow_app]
    rw [List.take_left' (by rw [enRow_len, List.length_take, Nat.min_eq_left h])]
set_option maxRecDepth 100000 in
theorem enRow_get (L : List ((Nat → Int) × Int)) {j : Nat} {S : Nat → Int} {h : Int} (hj : L[j]? = some (S, h)) {i : Nat} (hi : i < 67) : (enRow L)[j * 67 + i]? = (entA S h)[i]? := by
  induction L generalizing j with
  | nil => simp at hj
  | cons e L ih =>
    have hl : (entA e.1 e.2).toList.length = 67 := by rw [Array.length_toList, entA_size]
    rcases j with _ | j
    · rw [List.getElem?_cons_zero] at hj
      obtain rfl := Option.some.inj hj
      rw [enRow_cons, List.getElem?_append_left (by omega), Nat.zero_mul, Nat.zero_add, Array.getElem?_toList]
    · rw [List.getElem?_cons_succ] at hj
      rw [enRow_cons, List.getElem?_append_right (by omega), hl, ← ih hj]
      congr 1
      omega
set_option maxRecDepth 100000 in
theorem enRow_one_cell (L : List ((Nat → Int) × Int)) : ∀ u ∈ enRow L, u.oneCell' = true := fun u hu => by
  unfold enRow at hu
  obtain ⟨e, _, he⟩ := List.mem_flatMap.1 hu
  have := entA_plain e.1 e.2
  unfold Plain at this
  rw [Array.all_eq_true'] at this
  exact this u (Array.mem_toList_iff.1 he)
set_option maxRecDepth 100000 in
/-- an entry is loaded from within a row -/
theorem ent_load {W : World} {lo b off n cap : Nat} {L : List ((Nat → Int) × Int)} (h : VAt W lo 150 67 (.slice (some ⟨b, off, none⟩) n cap) n (enRow L)) {j : Nat} {S : Nat → Int} {hh : Int} (hj : L[j]? = some (S, hh)) :
    (Instr.loadAt 150 (.pointer (some ⟨b, off + j * 67, none⟩))).run Try.prog W = .ok (.agg (entA S hh)) W := by
  have hr : W.rangeAt b (off + j * 67) (entA S hh).toList := fun i u hu => by
    have hu2 : (entA S hh)[i]? = some u := by rw [← Array.getElem?_toList]; exact hu
    have hi : i < 67 := by have := (Array.getElem?_eq_some_iff.1 hu2).1; rw [entA_size] at this; exact this
    have hg : (enRow L)[j * 67 + i]? = some u := (enRow_get L hj hi).trans hu2
    have hc : W.cell? ⟨b, off + (j * 67 + i), none⟩ = some u := h.cells rfl _ _ hg
    rw [← Nat.add_assoc] at hc
    exact hc
  have hl : (Try.prog.info? 150).map (·.size) = some (entA S hh).toList.length := by rw [Array.length_toList, entA_size]; exact en_info
  have := run_loadAt_mid (P := Try.prog) W b (off + j * 67) 150 (entA S hh).toList _ hr Try.underlying150 rfl hl
  rw [Array.toArray_toList] at this
  exact this
set_option maxRecDepth 100000 in
/-- append(v, x) for a row of entries -/
theorem e_one {W : World} {lo n : Nat} {v : Value} {L : List ((Nat → Int) × Int)} (h : VAt W lo 150 67 v n (enRow L)) (hlo : lo ≤ W.heap.size) (hl : n ≤ 100000) (S : Nat → Int) (hh : Int) (ty : TypeId) :
    ∃ s cap W', (Builtin.append_ #[178, 178] ty #[v, .slice (some ⟨W.heap.size, 0, none⟩) 1 1]).run Try.prog (W.alloc (.cells (entA S hh) 150)) = .ok (.slice s (n + 1) cap) W' ∧ VAt W' lo 150 67 (.slice s (n + 1) cap) (n + 1) (enRow (L ++ [(S, hh)])) ∧ W.grownBy W' v.ownBlock ∧ (∀ b, (Value.slice s (n + 1) cap).ownBlock = some b → v.ownBlock = some b ∨ W.heap.size ≤ b) := by
  have hB : Below W.heap.size W (W.alloc (.cells (entA S hh) 150)) := (Below.refl _ _).alloc (Nat.le_refl _) _
  have hsz : (W.alloc (.cells (entA S hh) 150)).heap.size = W.heap.size + 1 := by show (W.heap.push _).size = _; rw [Array.size_push]
  have hblk : (W.alloc (.cells (entA S hh) 150)).heap[W.heap.size]? = some (.cells (entA S hh) 150 (0, 0)) := by
    show (W.heap.push _)[W.heap.size]? = _
    simp
  obtain ⟨v', W', hr, hv, hg, hf, _⟩ := v_app (P := Try.prog) (S := 178) (T := 150) Try.underlying178 en_info2 (entA_size _ _) (by decide) (by decide) (h.below hB) (by omega) ⟨W.heap.size, 0, none⟩ 1 1 (enRow [(S, hh)]) (by rw [enRow_len]; rfl) (fun j u hj => by
    have : (W.alloc (.cells (entA S hh) 150)).cell? ⟨W.heap.size, j, none⟩ = some u := by rw [cell_of_block hblk]; rw [enRow_one, Array.getElem?_toList] at hj; exact hj
    rw [Addr.add_lit, Nat.zero_add]
    exact this) (enRow_one_cell _) (by omega) ty
  obtain ⟨s, cap, rfl, _⟩ := hv.form
  rw [← enRow_app] at hv
  exact ⟨s, cap, W', hr, hv, only_trans (only_of_below hB _) hg, fun b hb => (hf b hb).imp id (fun e => by omega)⟩
end Go.Proofs.Ytmfagdbocidfjaa

/- The ring of saved states: an entry more, if there is room. Conditions: what its blocks hold. -/
namespace Go.Proofs.Ytmfagdbocidfjaa
open Go.RowKit
def RingEPost (W : World) (lo r room first n : Nat) (v : Value) (xs : List Value) (u : Value) (e : Ending) (W' : World) : Prop :=
  e = .returned u ∧ ∃ v', RingEAt W' lo r room first n v' xs ∧ Touch W W' (fun b => b = r ∨ v.ownBlock = some b) ∧ (∀ b, v'.ownBlock = some b → v.ownBlock = some b ∨ W.heap.size ≤ b)
set_option maxRecDepth 100000 in
/-- the row has turned, then the ring is told -/
theorem RingEAt.turn {W W' : World} {lo r room first n m : Nat} {v v' : Value} {xs ys : List Value} (h : RingEAt W lo r room first n v xs) (hg : W.grownBy W' v.ownBlock) (hv : VAt W' lo 150 67 v' m ys) :
    W'.heap[r]? = some (.cells #[.int .i64 (room : Nat), .int .i64 (first : Nat), v] 180 (0, 0)) ∧ RingEAt (W'.setCell ⟨r, 2, none⟩ v') lo r room first m v' ys ∧ Touch W (W'.setCell ⟨r, 2, none⟩ v') (fun b => b = r ∨ v.ownBlock = some b) := by
  have hr : W'.heap[r]? = some (.cells #[.int .i64 (room : Nat), .int .i64 (first : Nat), v] 180 (0, 0)) :=
    (hg.block r (Array.getElem?_eq_some_iff.1 h.blk).1 (fun e => h.row.ne h.blk (by decide) r e.symm rfl)).trans h.blk
  refine ⟨hr, ⟨?_, hv.kept (fun b hb => heap_setCell_other W' ⟨r, 2, none⟩ b _ (hv.ne hr (by decide) b hb)), h.lr⟩, ?_⟩
  · rw [blk_set hr 2 v']; rfl
  · have h1 := Touch.grown (p := fun b => b = r ∨ v.ownBlock = some b) hg (fun b hb => .inr hb)
    exact ⟨h1.os, h1.tape, h1.output, by show _ ≤ ((World.setCell _ _ _)).heap.size; rw [World.size_setCell]; exact h1.size, fun k hk hp => (heap_setCell_other W' ⟨r, 2, none⟩ k _ (fun e => hp (.inl e))).trans (h1.block k hk hp)⟩
set_option maxRecDepth 100000 in
theorem RingEAt.setFirst {W : World} {lo r room first n m : Nat} {v : Value} {xs : List Value} (h : RingEAt W lo r room first n v xs) : RingEAt (W.setCell ⟨r, 1, none⟩ (.int .i64 (m : Nat))) lo r room m n v xs ∧ Touch W (W.setCell ⟨r, 1, none⟩ (.int .i64 (m : Nat))) (fun b => b = r) := by
  refine ⟨⟨?_, h.row.kept (fun b hb => heap_setCell_other W ⟨r, 1, none⟩ b _ (h.row.ne h.blk (by decide) b hb)), h.lr⟩, ?_⟩
  · rw [blk_set h.blk 1 _]; rfl
  · exact Touch.grown (only_set (only_refl W (some r)) 1 _) (fun b hb => by injection hb with hb; exact hb.symm)
set_option maxRecDepth 100000 in
theorem RingEAt.below {W W' : World} {lo r room first n : Nat} {v : Value} {xs : List Value} (h : RingEAt W lo r room first n v xs) (hB : Below W.heap.size W W') : RingEAt W' lo r room first n v xs :=
  h.keep (hB.block r (Array.getElem?_eq_some_iff.1 h.blk).1) (fun b hb => hB.block b (h.row.blt b hb))
attribute [local irreducible] entA stA enRow blk wLoad wLoadRes loadAns wStore wStoreRes storeAns Plain eBuild eSlice
attribute [local go_sem ↓] ld_en0 sto_en0 eSlice_of
attribute [local go_sem] eSlice_1 ld_en sto_en loadAns_some storeAns_some entA_size entA_plain blk_alloc_if blk_setRow_if blk_drew_at blk_drewN_at rowPut_some
set_option maxRecDepth 100000 in
set_option maxHeartbeats 4000000 in
theorem RingE_put (lo r room first n : Nat) (v : Value) (L : List ((Nat → Int) × Int)) (S : Nat → Int) (hh : Int) (w : World) (h : RingEAt w lo r room first n v (enRow L)) (hb : first + n ≤ 1000000) (hn : n < room) (hroom : room ≤ 100000) (hlo : lo ≤ w.heap.size) :
    Calls Try.prog 69 #[.pointer (some ⟨r, 0, none⟩), .agg (entA S hh)] w (RingEPost w lo r room first (n + 1) v (enRow (L ++ [(S, hh)])) (.int .i64 ((first + n : Nat) : Int))) := by
  have hB : Below w.heap.size w (w.alloc (.cells (entA S hh) 150)) := (Below.refl _ _).alloc (Nat.le_refl _) _
  have hb0 : blk (w.alloc (.cells (entA S hh) 150)) w.heap.size = some (.cells (entA S hh) 150 (0, 0)) := blk_of (last0 _ _ _ rfl)
  have hT0 : Hid (Touch w (w.alloc (.cells (entA S hh) 150)) (fun b => b = r ∨ v.ownBlock = some b)) := hide (Touch.below hB _)
  have h0 := Lib.hid (h.below hB)
  have e1 : ((n : Int) == (room : Int)) = false := by simp; omega
  have e2 : (n == room) = false := by simp; omega
  have hnb : n ≤ 100000 := by omega
  have hl0 : Hid (lo ≤ (w.alloc (.cells (entA S hh) 150)).heap.size) := hide (Nat.le_trans hlo hB.size)
  have hbh := Lib.hid hb
  obtain ⟨s, cap, rfl, _, _⟩ := h.row.form
  clear h hlo hb hn hB
  go_enter Try.func69, Try.ntmps69
  go_upto_region 1 with (fail)
  generalize World.alloc w _ = w0 at *
  obtain ⟨g, hg⟩ : ∃ g, w.heap.size = g := ⟨_, rfl⟩
  have hgh := Lib.hid hg
  rw [hg] at hb0 ⊢
  clear hg
  have hnx := Lib.hid (RingE_next lo r room first n _ _ w0 h0.out hbh.out)
  go_wp2_with ((go_at_call 65; refine hnx.out.mono ?_; rintro e w1 ⟨rfl, q, rfl⟩; go_upto_region 2 with (fail)))
  have h1 := Lib.hid (h0.out.drewN q)
  have hT1 := Lib.hid (hT0.out.drewN q)
  have hl1 : Hid (lo ≤ (w0.drewN q).heap.size) := hide hl0.out
  have hb1 : blk (w0.drewN q) g = some (.cells (entA S hh) 150 (0, 0)) := (blk_drewN_at w0 q g).trans hb0
  clear hnx h0 hT0 hl0 hb0
  generalize w0.drewN q = w1 at *
  have c2 : w1.cell? ⟨r, 2, none⟩ = some (.slice s n cap) := (cell_of_block h1.out.blk (i := 2)).trans rfl
  have c0 : w1.cell? ⟨r, 0, none⟩ = some (.int .i64 (room : Nat)) := (cell_of_block h1.out.blk (i := 0)).trans rfl
  go_quiet (fail)
  have h2 := Lib.hid (h1.out.drewN nq)
  have hT2 := Lib.hid (hT1.out.drewN nq)
  have hl2 : Hid (lo ≤ (w1.drewN nq).heap.size) := hide hl1.out
  have hb2 : blk (w1.drewN nq) g = some (.cells (entA S hh) 150 (0, 0)) := (blk_drewN_at w1 nq g).trans hb1
  have hsz2 : Hid (w.heap.size ≤ (w1.drewN nq).heap.size) := hide hT1.out.size
  clear h1 hT1 hl1 c2 c0 hb1
  generalize w1.drewN nq = w2 at *
  go_upto_region 5 with (fail)
  have h3 := Lib.hid (h2.out.drewN 1)
  have hT3 := Lib.hid (hT2.out.drewN 1)
  have hl3 : Hid (lo ≤ (w2.drewN 1).heap.size) := hide hl2.out
  obtain ⟨s6, c6, W6, hr6, hv6, hg6, hf6⟩ := e_one h3.out.row hl3.out hnb S hh 178
  obtain ⟨hb6, hR6, hT6⟩ := h3.out.turn hg6 hv6
  have hr6h := Lib.hid hr6
  have hend : Hid (RingEPost w lo r room first (n + 1) (.slice s n cap) (enRow (L ++ [(S, hh)])) (.int .i64 ((first + n : Nat) : Int)) (.returned (.int .i64 ((first + n : Nat) : Int))) (W6.setCell ⟨r, 2, none⟩ (.slice s6 (n + 1) c6))) := hide ⟨rfl, _, hR6, hT3.out.trans (hT6.mono (fun k _ hk => .inl hk)), fun b hb => (hf6 b hb).imp id (fun e => by have := hsz2.out; exact Nat.le_trans this e)⟩
  have c2 : w2.cell? ⟨r, 2, none⟩ = some (.slice s n cap) := (cell_of_block h2.out.blk (i := 2)).trans rfl
  have c26 : W6.cell? ⟨r, 2, none⟩ = some (.slice s n cap) := (cell_of_block hb6 (i := 2)).trans rfl
  have f26 := frozen_of_row _ r 2 _ _ hb6
  have hc2 : (w2.alloc (.cells (entA S hh) 150)).cell? ⟨r, 2, none⟩ = some (.slice s n cap) := (Below.cell (B := w2.heap.size) ((Below.refl _ _).alloc (Nat.le_refl _) _) (cell_block_lt c2)).trans c2
  have hbb2 : g < w2.heap.size := (Array.getElem?_eq_some_iff.1 (blk_heap hb2)).1
  have hbn : ¬ g = w2.heap.size := by omega
  have hrn : ¬ r = w2.heap.size := by have := cell_block_lt c2; show ¬ r = _; simp at this; omega
  clear hr6 hb6 hR6 hT6 hg6 hf6 hv6 h2 hT2 hl2 hsz2 h3 hT3 hl3
  go_cut [] (fun wx => wx = W6.setCell ⟨r, 2, none⟩ (.slice s6 (n + 1) c6))
  case first =>
    go_region_law (first | (refine step_app_run rfl (.tmp 43) (.tmp 45) _ _ rfl rfl rfl hr6h.out ?_))
    all_goals
      go_wp2_with fail
      go_meet
      rfl
  case rest =>
    subst hcut
    go_wp2_with fail
    go_ret
    exact hend.out
end Go.Proofs.Ytmfagdbocidfjaa
