import Derived.Test.YtmfagdbocidfjaaU20
/- The saved states: a state is saved. Conditions: what the blocks hold. -/
namespace Go.Proofs.Ytmfagdbocidfjaa
open Go.RowKit
def SavePost (w : World) (lo p r : Nat) (v : Value) (first : Nat) (L : List ((Nat → Int) × Int)) (S : Nat → Int) (f : Nat) (e : Ending) (w' : World) : Prop :=
  e = .returned (.int .i64 0) ∧ ∃ hh, SvPost w lo p r v (putF first (L.take (f - first)) (S, hh)).1 (putF first (L.take (f - first)) (S, hh)).2 w'
attribute [local irreducible] entA stA enRow blk wLoad wLoadRes loadAns wStore wStoreRes storeAns Plain eBuild eSlice
attribute [local go_sem ↓] ld_st0 sto_st0 ld_en0 sto_en0 eSlice_of eBuild_of
attribute [local go_sem] ld_st sto_st stA_size st_plain eBuild_2 eSlice_1 ld_en sto_en loadAns_some storeAns_some entA_size entA_plain blk_alloc_if blk_setRow_if blk_drew_at blk_drewN_at rowPut_some
set_option maxRecDepth 100000 in
set_option maxHeartbeats 4000000 in
theorem sv_save (lo p r first : Nat) (v : Value) (L : List ((Nat → Int) × Int)) (S : Nat → Int) (f : Nat) (w : World) (h : SvAt w lo p r first v L) (hlo : lo ≤ w.heap.size) (hS : S 0 = (f : Nat)) (hf1 : first ≤ f) (hf2 : f ≤ first + L.length) (hn : L.length ≤ 64) (hn1 : 1 ≤ L.length) (hb : first + L.length ≤ 10000) :
    Calls Try.prog 30 #[.pointer (some ⟨p, 0, none⟩), .agg (stA S)] w (SavePost w lo p r v first L S f) := by
  have hB : Below w.heap.size w (w.alloc (.cells (stA S) 49)) := (Below.refl _ _).alloc (Nat.le_refl _) _
  have hg0 : Hid (StAt (w.alloc (.cells (stA S) 49)) w.heap.size S) := hide (last0 _ _ _ rfl)
  have hT0 : Hid (Touch w (w.alloc (.cells (stA S) 49)) (svFoot p r v)) := hide (Touch.below hB _)
  have h0 := Lib.hid (h.below hB)
  have hlow := Lib.hid hlo
  have hlt := Lib.hid h.lt
  have e1 : ((L.length : Int) == 0) = false := beq_eq_false_iff_ne.2 (by omega)
  have e2 : (L.length == 0) = false := beq_eq_false_iff_ne.2 (by omega)
  have e3 : decide ((L.length : Int) = 0) = false := decide_eq_false (by omega)
  obtain ⟨z, hz⟩ : ∃ z : Int, S 0 = z := ⟨_, rfl⟩
  obtain ⟨m, hm⟩ : ∃ m : Int, ((first + L.length : Nat) : Int) = m := ⟨_, rfl⟩
  have hzh : Hid (z = ((first + (f - first) : Nat) : Int)) := hide (by omega)
  have hSh := Lib.hid hz
  have d1 : decide (m < z) = false := decide_eq_false (by omega)
  have d2 : decide (z < (first : Int)) = false := decide_eq_false (by omega)
  have hmh := Lib.hid hm
  have hbh := Lib.hid hb
  have hnh := Lib.hid hn
  have hkh : Hid (f - first ≤ L.length) := hide (by omega)
  clear h hlo hb hn hn1 hS hf1 hf2 hz hm hB
  go_enter Try.func30, Try.ntmps30
  go_upto_region 1 with (fail)
  generalize World.alloc w _ = w0 at *
  obtain ⟨g, hg⟩ : ∃ g, w.heap.size = g := ⟨_, rfl⟩
  have hgh := Lib.hid hg
  rw [hg] at hg0 ⊢
  clear hg
  have cp : w0.cell? ⟨p, 0, none⟩ = some (.pointer (some ⟨r, 0, none⟩)) := (cell_of_block h0.out.blk (i := 0)).trans rfl
  have cg : w0.cell? ⟨g, 0, none⟩ = some (.int .i64 z) := by rw [← hSh.out]; exact hg0.out.int (by omega) rfl
  have hlen := Lib.hid (RingE_len lo r 64 first L.length v (enRow L) w0 h0.out.ring)
  have hnx := Lib.hid (fun q => RingE_next lo r 64 first L.length v (enRow L) (w0.drewN q) (h0.out.ring.drewN q) (by have := hbh.out; omega))
  rw [hmh.out] at hnx
  go_wp2_with fail
  refine hlen.out.mono ?_
  rintro e w1 ⟨rfl, rfl⟩
  go_upto_region 3 with (fail)
  go_quiet ((go_at_call 65; exact Calls.quiet_of (hnx.out _)))
  have h1 := Lib.hid (h0.out.drewN nq)
  have hT1 := Lib.hid (hT0.out.drewN nq)
  have hg1 : Hid (StAt (w0.drewN nq) g S) := hide hg0.out
  clear h0 hT0 hg0 cp cg hlen hnx
  generalize w0.drewN nq = w1 at *
  have cp : w1.cell? ⟨p, 0, none⟩ = some (.pointer (some ⟨r, 0, none⟩)) := (cell_of_block h1.out.blk (i := 0)).trans rfl
  have cg : w1.cell? ⟨g, 0, none⟩ = some (.int .i64 z) := by rw [← hSh.out]; exact hg1.out.int (by omega) rfl
  have hfi := Lib.hid (fun q => RingE_first lo r 64 first L.length v (enRow L) (w1.drewN q) (h1.out.ring.drewN q))
  go_upto_region 5 with (fail)
  go_quiet ((go_at_call 67; exact Calls.quiet_of_same ((hfi.out _).mono fun _ _ hx => ⟨hx.1, hx.2.symm⟩)))
  have h2 := Lib.hid (h1.out.drewN nq)
  have hT2 := Lib.hid (hT1.out.drewN nq)
  have hg2 : Hid (StAt (w1.drewN nq) g S) := hide hg1.out
  clear h1 hT1 hg1 cp cg hfi
  generalize w1.drewN nq = w2 at *
  have cp : w2.cell? ⟨p, 0, none⟩ = some (.pointer (some ⟨r, 0, none⟩)) := (cell_of_block h2.out.blk (i := 0)).trans rfl
  have cg : w2.cell? ⟨g, 0, none⟩ = some (.int .i64 z) := by rw [← hSh.out]; exact hg2.out.int (by omega) rfl
  go_upto_region 7 with (fail)
  have h3 : Hid (SvAt w2.drew lo p r first v L) := hide (h2.out.drewN 1)
  have hT3 : Hid (Touch w w2.drew (svFoot p r v)) := hide (hT2.out.drewN 1)
  have hg3 : Hid (StAt w2.drew g S) := hide hg2.out
  clear h2 hT2 hg2
  have hcu := Lib.hid (RingE_cut_any lo r first (f - first) v L w2.drew h3.out.ring (by have := hbh.out; omega) hkh.out)
  rw [← hzh.out] at hcu
  go_still_tail 6, (by kernel_rfl)
  go_wp2_with fail
  refine hcu.out.mono ?_
  rintro e w4 ⟨rfl, v4, hR4, hT4, hf4⟩
  have h4 := Lib.hid (h3.out.turn hT4 hR4 rfl)
  have hgn : Hid (∀ b, svFoot p r v b → b ≠ g) := hide (fun b hb e => by have := hlt.out b hb; have := hgh.out; omega)
  have hg4 : Hid (StAt w4 g S) := hide (hg3.out.keep (hT4.block g hg3.out.lt (fun e => e.elim (fun e => hgn.out r (.inr (.inl rfl)) e.symm) (fun e => hgn.out g (.inr (.inr e)) rfl))))
  have hT4w : Hid (Touch w w4 (svFoot p r v)) := hide (hT3.out.trans (hT4.mono (fun b _ hb => .inl (hb.elim (fun e => .inr (.inl e)) (fun e => .inr (.inr e))))))
  have hf4w : Hid (∀ b, v4.ownBlock = some b → v.ownBlock = some b ∨ w.heap.size ≤ b) := hide (fun b hb => (hf4 b hb).imp id (fun e => Nat.le_trans hT3.out.size e))
  have hv4g : Hid (∀ b, v4.ownBlock = some b → b ≠ g) := hide (fun b hb e => (hf4 b hb).elim (fun h => hgn.out b (.inr (.inr h)) e) (fun h => by have := hg3.out.lt; omega))
  have hl4 : Hid (lo ≤ w4.heap.size) := hide (Nat.le_trans hlow.out hT4w.out.size)
  clear hR4 hT4 hf4 h3 hT3 hg3 hcu
  go_upto_region 8 with (fail)
  have h5 : Hid (SvAt w4.drew lo p r first v4 (L.take (f - first))) := hide (h4.out.drewN 1)
  have hT5 : Hid (Touch w w4.drew (svFoot p r v)) := hide (hT4w.out.drewN 1)
  have hg5 : Hid (StAt w4.drew g S) := hide hg4.out
  have hl5 : Hid (lo ≤ w4.drew.heap.size) := hide hl4.out
  have hHeld : (fun y : World => y.cell? ⟨p, 0, none⟩ = some (.pointer (some ⟨r, 0, none⟩)) ∧ blk y g = some (.cells (stA S) 49 (0, 0))) w4.drew := ⟨(cell_of_block h5.out.blk (i := 0)).trans rfl, blk_of hg5.out⟩
  refine h_begin 9 (fun y : World => y.cell? ⟨p, 0, none⟩ = some (.pointer (some ⟨r, 0, none⟩)) ∧ blk y g = some (.cells (stA S) 49 (0, 0))) rfl (by kernel_rfl) hHeld ?_
  clear h4 hT4w hg4 hl4
  generalize w4.drew = w5 at *
  first
    | (refine h_run (i := 0) (v := ?_) hHeld rfl (by kernel_rfl) (by kernel_rfl) (by kernel_rfl) ?_ ?_ ?_
       rotate_left
       · rfl
       · (intro x hSx; (try dsimp only at hSx); go_simp <;> with_reducible rfl)
       simp only [Act.put, List.setIfInBounds_toArray, List.set_cons_zero, List.set_cons_succ])
    | (refine h_skip (i := 0) hHeld rfl (by kernel_rfl) (by kernel_rfl) (by kernel_rfl) ?_ ?_
       · rfl
       simp only [Act.put, List.setIfInBounds_toArray, List.set_cons_zero, List.set_cons_succ])
  first
    | (refine h_run (i := 1) (v := ?_) hHeld rfl (by kernel_rfl) (by kernel_rfl) (by kernel_rfl) ?_ ?_ ?_
       rotate_left
       · rfl
       · (intro x hSx; (try dsimp only at hSx); go_simp <;> with_reducible rfl)
       simp only [Act.put, List.setIfInBounds_toArray, List.set_cons_zero, List.set_cons_succ])
    | (refine h_skip (i := 1) hHeld rfl (by kernel_rfl) (by kernel_rfl) (by kernel_rfl) ?_ ?_
       · rfl
       simp only [Act.put, List.setIfInBounds_toArray, List.set_cons_zero, List.set_cons_succ])
  first
    | (refine h_run (i := 2) (v := ?_) hHeld rfl (by kernel_rfl) (by kernel_rfl) (by kernel_rfl) ?_ ?_ ?_
       rotate_left
       · rfl
       · (intro x hSx; (try dsimp only at hSx); go_simp <;> with_reducible rfl)
       simp only [Act.put, List.setIfInBounds_toArray, List.set_cons_zero, List.set_cons_succ])
    | (refine h_skip (i := 2) hHeld rfl (by kernel_rfl) (by kernel_rfl) (by kernel_rfl) ?_ ?_
       · rfl
       simp only [Act.put, List.setIfInBounds_toArray, List.set_cons_zero, List.set_cons_succ])
  first
    | (refine h_run (i := 3) (v := ?_) hHeld rfl (by kernel_rfl) (by kernel_rfl) (by kernel_rfl) ?_ ?_ ?_
       rotate_left
       · rfl
       · (intro x hSx; (try dsimp only at hSx); go_simp <;> with_reducible rfl)
       simp only [Act.put, List.setIfInBounds_toArray, List.set_cons_zero, List.set_cons_succ])
    | (refine h_skip (i := 3) hHeld rfl (by kernel_rfl) (by kernel_rfl) (by kernel_rfl) ?_ ?_
       · rfl
       simp only [Act.put, List.setIfInBounds_toArray, List.set_cons_zero, List.set_cons_succ])
  first
    | (refine h_run (i := 4) (v := ?_) hHeld rfl (by kernel_rfl) (by kernel_rfl) (by kernel_rfl) ?_ ?_ ?_
       rotate_left
       · rfl
       · (intro x hSx; (try dsimp only at hSx); go_simp <;> with_reducible rfl)
       simp only [Act.put, List.setIfInBounds_toArray, List.set_cons_zero, List.set_cons_succ])
    | (refine h_skip (i := 4) hHeld rfl (by kernel_rfl) (by kernel_rfl) (by kernel_rfl) ?_ ?_
       · rfl
       simp only [Act.put, List.setIfInBounds_toArray, List.set_cons_zero, List.set_cons_succ])
  first
    | (refine h_run (i := 5) (v := ?_) hHeld rfl (by kernel_rfl) (by kernel_rfl) (by kernel_rfl) ?_ ?_ ?_
       rotate_left
       · rfl
       · (intro x hSx; (try dsimp only at hSx); go_simp <;> with_reducible rfl)
       simp only [Act.put, List.setIfInBounds_toArray, List.set_cons_zero, List.set_cons_succ])
    | (refine h_skip (i := 5) hHeld rfl (by kernel_rfl) (by kernel_rfl) (by kernel_rfl) ?_ ?_
       · rfl
       simp only [Act.put, List.setIfInBounds_toArray, List.set_cons_zero, List.set_cons_succ])
  refine h_call (i := 6) (fun y : World => y.cell? ⟨p, 0, none⟩ = some (.pointer (some ⟨r, 0, none⟩)) ∧ blk y g = some (.cells (stA S) 49 (0, 0))) (fun _ h => h) (g_sum S w5) rfl (by kernel_rfl) rfl ?_ ?_
  · go_simp <;> with_reducible rfl
  rintro _ w6 ⟨hh, rfl, hB6⟩
  have h6 := Lib.hid (h5.out.below hB6)
  have hT6 : Hid (Touch w w6 (svFoot p r v)) := hide (hT5.out.trans (Touch.below hB6 _))
  have hl6 : Hid (lo ≤ w6.heap.size) := hide (Nat.le_trans hl5.out hB6.size)
  have hHeld : (fun y : World => y.cell? ⟨p, 0, none⟩ = some (.pointer (some ⟨r, 0, none⟩)) ∧ blk y g = some (.cells (stA S) 49 (0, 0))) w6 := ⟨(cell_of_block h6.out.blk (i := 0)).trans rfl, blk_of (hg5.out.keep (hB6.block g hg5.out.lt))⟩
  have hg6 : Hid (StAt w6 g S) := hide (hg5.out.keep (hB6.block g hg5.out.lt))
  have hpu := Lib.hid (RingE_put_any lo r first v4 (L.take (f - first)) S hh w6 h6.out.ring (by have := hbh.out; have := hkh.out; rw [List.length_take]; omega) (by have := hnh.out; rw [List.length_take]; omega) hl6.out)
  clear h5 hT5 hg5 hl5 hB6
  refine ⟨_, rfl, hHeld, ?_⟩
  simp only [Act.put, List.setIfInBounds_toArray, List.set_cons_zero, List.set_cons_succ]
  first
    | (refine h_run (i := 7) (v := ?_) hHeld rfl (by kernel_rfl) (by kernel_rfl) (by kernel_rfl) ?_ ?_ ?_
       rotate_left
       · rfl
       · (intro x hSx; (try dsimp only at hSx); go_simp <;> with_reducible rfl)
       simp only [Act.put, List.setIfInBounds_toArray, List.set_cons_zero, List.set_cons_succ])
    | (refine h_skip (i := 7) hHeld rfl (by kernel_rfl) (by kernel_rfl) (by kernel_rfl) ?_ ?_
       · rfl
       simp only [Act.put, List.setIfInBounds_toArray, List.set_cons_zero, List.set_cons_succ])
  refine h_call (i := 8) (fun y : World => y.cell? ⟨p, 0, none⟩ = some (.pointer (some ⟨r, 0, none⟩)) ∧ blk y g = some (.cells (stA S) 49 (0, 0))) (fun _ h => h) hpu.out rfl (by kernel_rfl) rfl ?_ ?_
  · go_simp <;> with_reducible rfl
  rintro _ w7 ⟨rfl, v7, hR7, hT7, hf7⟩
  have hend : Hid (SavePost w lo p r v first L S f (.returned (.int .i64 0)) w7) := hide ⟨rfl, hh, SvPost.trans hT6.out hf4w.out ⟨v7, h6.out.turn hT7 hR7 rfl, hT7.mono (fun b _ hb => hb.elim (fun e => .inr (.inl e)) (fun e => .inr (.inr e))), hf7⟩⟩
  have hHeld : (fun y : World => y.cell? ⟨p, 0, none⟩ = some (.pointer (some ⟨r, 0, none⟩)) ∧ blk y g = some (.cells (stA S) 49 (0, 0))) w7 := ⟨(cell_of_block (h6.out.turn (L' := (putF first (L.take (f - first)) (S, hh)).2) hT7 hR7 rfl).blk (i := 0)).trans rfl, blk_of ((hT7.block g hg6.out.lt (fun e => e.elim (fun e => hgn.out r (.inr (.inl rfl)) e.symm) (fun e => hv4g.out g e rfl))).trans hg6.out)⟩
  refine ⟨_, rfl, hHeld, h_done (by kernel_rfl) ?_⟩
  simp only [Act.put, List.setIfInBounds_toArray, List.set_cons_zero, List.set_cons_succ]
  clear hR7 hT7 hf7 hHeld hpu
  go_wp2_with fail
  go_ret
  exact hend.out
end Go.Proofs.Ytmfagdbocidfjaa

/- The saved states: the first one is saved; one is read. Conditions: what the blocks hold. -/
namespace Go.Proofs.Ytmfagdbocidfjaa
open Go.RowKit
attribute [local irreducible] entA stA enRow blk wLoad wLoadRes loadAns wStore wStoreRes storeAns Plain eBuild eSlice
attribute [local go_sem ↓] ld_st0 sto_st0 ld_en0 sto_en0 eSlice_of eBuild_of
attribute [local go_sem] ld_st sto_st stA_size st_plain eBuild_2 eSlice_1 ld_en sto_en loadAns_some storeAns_some entA_size entA_plain blk_alloc_if blk_setRow_if blk_drew_at blk_drewN_at rowPut_some
set_option maxRecDepth 100000 in
set_option maxHeartbeats 4000000 in
theorem sv_save0 (lo p r : Nat) (v : Value) (S : Nat → Int) (w : World) (h : SvAt w lo p r 0 v []) (hlo : lo ≤ w.heap.size) (hS : S 0 = 0) :
    Calls Try.prog 30 #[.pointer (some ⟨p, 0, none⟩), .agg (stA S)] w (SavePost w lo p r v 0 [] S 0) := by
  have hB : Below w.heap.size w (w.alloc (.cells (stA S) 49)) := (Below.refl _ _).alloc (Nat.le_refl _) _
  have hg0 : Hid (StAt (w.alloc (.cells (stA S) 49)) w.heap.size S) := hide (last0 _ _ _ rfl)
  have hT0 : Hid (Touch w (w.alloc (.cells (stA S) 49)) (svFoot p r v)) := hide (Touch.below hB _)
  have h0 := Lib.hid (h.below hB)
  have hlow := Lib.hid hlo
  have hlt := Lib.hid h.lt
  have hS0 := Lib.hid hS
  clear h hlo hS hB
  go_enter Try.func30, Try.ntmps30
  go_upto_region 1 with (fail)
  generalize World.alloc w _ = w0 at *
  obtain ⟨g, hg⟩ : ∃ g, w.heap.size = g := ⟨_, rfl⟩
  have hgh := Lib.hid hg
  rw [hg] at hg0 ⊢
  clear hg
  have cp : w0.cell? ⟨p, 0, none⟩ = some (.pointer (some ⟨r, 0, none⟩)) := (cell_of_block h0.out.blk (i := 0)).trans rfl
  have cg : w0.cell? ⟨g, 0, none⟩ = some (.int .i64 0) := by rw [← hS0.out]; exact hg0.out.int (by omega) rfl
  have hlen := Lib.hid (RingE_len lo r 64 0 0 v (enRow []) w0 h0.out.ring)
  have hnx := Lib.hid (RingE_next lo r 64 0 0 v (enRow []) w0 h0.out.ring (by omega))
  go_wp2_with fail
  refine hlen.out.mono ?_
  rintro e w1 ⟨rfl, rfl⟩
  go_wp2_with fail
  refine hnx.out.mono ?_
  rintro e w1 ⟨rfl, q, rfl⟩
  have cgq : (w0.drewN q).cell? ⟨g, 0, none⟩ = some (.int .i64 0) := cg
  have cpq : (w0.drewN q).cell? ⟨p, 0, none⟩ = some (.pointer (some ⟨r, 0, none⟩)) := cp
  have h1 := Lib.hid (h0.out.drewN q)
  have hT1 := Lib.hid (hT0.out.drewN q)
  have hg1 : Hid (StAt (w0.drewN q) g S) := hide hg0.out
  clear h0 hT0 hg0 cp cg hlen hnx
  generalize w0.drewN q = w0 at *
  go_upto_region 2 with (fail)
  have h3 : Hid (SvAt w0.drew lo p r 0 v []) := hide (h1.out.drewN 1)
  have hT3 : Hid (Touch w w0.drew (svFoot p r v)) := hide (hT1.out.drewN 1)
  have hg3 : Hid (StAt w0.drew g S) := hide hg1.out
  clear h1 hT1 hg1
  have hre := Lib.hid (RingE_reset lo r 64 0 0 0 v (enRow []) w0.drew h3.out.ring)
  go_still_tail 6, (by kernel_rfl)
  go_wp2_with fail
  refine hre.out.mono ?_
  rintro e w4 ⟨rfl, vv, hR4, hT4, hf4⟩
  have h4 := Lib.hid (h3.out.turn (L' := []) hT4 (hR4.castL rfl enRow_nil.symm) rfl)
  have hgn0 : Hid (∀ b, svFoot p r v b → b ≠ g) := hide (fun b hb e => by have := hlt.out b hb; have := hgh.out; omega)
  have hg4 : Hid (StAt w4 g S) := hide (hg3.out.keep (hT4.block g hg3.out.lt (fun e => e.elim (fun e => hgn0.out r (.inr (.inl rfl)) e.symm) (fun e => hgn0.out g (.inr (.inr e)) rfl))))
  have hT4w : Hid (Touch w w4 (svFoot p r v)) := hide (hT3.out.trans (hT4.mono (fun b _ hb => .inl (hb.elim (fun e => .inr (.inl e)) (fun e => .inr (.inr e))))))
  have hfV : Hid (∀ b, vv.ownBlock = some b → v.ownBlock = some b ∨ w.heap.size ≤ b) := hide (fun b hb => (hf4 b hb).imp id (fun e => Nat.le_trans hT3.out.size e))
  have hgn : Hid (∀ b, svFoot p r vv b → b ≠ g) := hide (fun b hb => by
    rcases hb with hb | hb | hb
    · exact hgn0.out b (.inl hb)
    · exact hgn0.out b (.inr (.inl hb))
    · rcases hf4 b hb with hb | hb
      · exact hgn0.out b (.inr (.inr hb))
      · have := hg3.out.lt; omega)
  clear hR4 hT4 hf4 h3 hT3 hg3 hre cgq cpq hgn0
  have hg0 := hg4
  have h0 := h4
  have hT0 := hT4w
  clear hg4 h4 hT4w
  obtain ⟨z, hz⟩ : ∃ z : Int, S 0 = z := ⟨_, rfl⟩
  have hz0 : z = 0 := by rw [← hz]; exact hS0.out
  have hSh := Lib.hid hz
  have d1 : decide ((0 : Int) < z) = false := decide_eq_false (by omega)
  have d2 : decide (z < (0 : Int)) = false := decide_eq_false (by omega)
  have hzh : Hid (z = ((0 + (0 - 0) : Nat) : Int)) := hide (by omega)
  have hbh : Hid (0 + ([] : List ((Nat → Int) × Int)).length ≤ 10000) := hide (by decide)
  have hnh : Hid (([] : List ((Nat → Int) × Int)).length ≤ 64) := hide (by decide)
  have hkh : Hid (0 - 0 ≤ ([] : List ((Nat → Int) × Int)).length) := hide (by decide)
  have hz0h := Lib.hid hz0
  clear hz hz0
  generalize w4 = w0 at *
  have cp : w0.cell? ⟨p, 0, none⟩ = some (.pointer (some ⟨r, 0, none⟩)) := (cell_of_block h0.out.blk (i := 0)).trans rfl
  have cg : w0.cell? ⟨g, 0, none⟩ = some (.int .i64 z) := by rw [← hSh.out]; exact hg0.out.int (by omega) rfl
  have hnx := Lib.hid (fun q => RingE_next lo r 64 0 0 vv (enRow []) (w0.drewN q) (h0.out.ring.drewN q) (by omega))
  go_upto_region 3 with (fail)
  go_quiet ((go_at_call 65; exact Calls.quiet_of (hnx.out _)))
  have h1 := Lib.hid (h0.out.drewN nq)
  have hT1 := Lib.hid (hT0.out.drewN nq)
  have hg1 : Hid (StAt (w0.drewN nq) g S) := hide hg0.out
  clear h0 hT0 hg0 cp cg hnx
  generalize w0.drewN nq = w1 at *
  have cp : w1.cell? ⟨p, 0, none⟩ = some (.pointer (some ⟨r, 0, none⟩)) := (cell_of_block h1.out.blk (i := 0)).trans rfl
  have cg : w1.cell? ⟨g, 0, none⟩ = some (.int .i64 z) := by rw [← hSh.out]; exact hg1.out.int (by omega) rfl
  have hfi := Lib.hid (fun q => RingE_first lo r 64 0 0 vv (enRow []) (w1.drewN q) (h1.out.ring.drewN q))
  go_upto_region 5 with (fail)
  go_quiet ((go_at_call 67; exact Calls.quiet_of_same ((hfi.out _).mono fun _ _ hx => ⟨hx.1, hx.2.symm⟩)))
  have h2 := Lib.hid (h1.out.drewN nq)
  have hT2 := Lib.hid (hT1.out.drewN nq)
  have hg2 : Hid (StAt (w1.drewN nq) g S) := hide hg1.out
  clear h1 hT1 hg1 cp cg hfi
  generalize w1.drewN nq = w2 at *
  have cp : w2.cell? ⟨p, 0, none⟩ = some (.pointer (some ⟨r, 0, none⟩)) := (cell_of_block h2.out.blk (i := 0)).trans rfl
  have cg : w2.cell? ⟨g, 0, none⟩ = some (.int .i64 z) := by rw [← hSh.out]; exact hg2.out.int (by omega) rfl
  go_upto_region 7 with (fail)
  have h3 : Hid (SvAt w2.drew lo p r 0 vv []) := hide (h2.out.drewN 1)
  have hT3 : Hid (Touch w w2.drew (svFoot p r v)) := hide (hT2.out.drewN 1)
  have hg3 : Hid (StAt w2.drew g S) := hide hg2.out
  clear h2 hT2 hg2
  have hcu := Lib.hid (RingE_cut_any lo r 0 (0 - 0) vv [] w2.drew h3.out.ring (by have := hbh.out; omega) hkh.out)
  rw [← hzh.out] at hcu
  go_still_tail 6, (by kernel_rfl)
  go_wp2_with fail
  refine hcu.out.mono ?_
  rintro e w4 ⟨rfl, v4, hR4, hT4, hf4⟩
  have h4 := Lib.hid (h3.out.turn hT4 hR4 rfl)
  have hg4 : Hid (StAt w4 g S) := hide (hg3.out.keep (hT4.block g hg3.out.lt (fun e => e.elim (fun e => hgn.out r (.inr (.inl rfl)) e.symm) (fun e => hgn.out g (.inr (.inr e)) rfl))))
  have hT4w : Hid (Touch w w4 (svFoot p r v)) := hide (hT3.out.trans (hT4.mono (fun b _ hb => hb.elim (fun e => .inl (.inr (.inl e))) (fun e => (hfV.out b e).imp (fun e => .inr (.inr e)) id))))
  have hf4w : Hid (∀ b, v4.ownBlock = some b → v.ownBlock = some b ∨ w.heap.size ≤ b) := hide (fun b hb => (hf4 b hb).elim (fun e => hfV.out b e) (fun e => .inr (Nat.le_trans hT3.out.size e)))
  have hv4g : Hid (∀ b, v4.ownBlock = some b → b ≠ g) := hide (fun b hb e => (hf4 b hb).elim (fun h => hgn.out b (.inr (.inr h)) e) (fun h => by have := hg3.out.lt; omega))
  have hl4 : Hid (lo ≤ w4.heap.size) := hide (Nat.le_trans hlow.out hT4w.out.size)
  clear hR4 hT4 hf4 h3 hT3 hg3 hcu
  go_upto_region 8 with (fail)
  have h5 : Hid (SvAt w4.drew lo p r 0 v4 (([] : List ((Nat → Int) × Int)).take (0 - 0))) := hide (h4.out.drewN 1)
  have hT5 : Hid (Touch w w4.drew (svFoot p r v)) := hide (hT4w.out.drewN 1)
  have hg5 : Hid (StAt w4.drew g S) := hide hg4.out
  have hl5 : Hid (lo ≤ w4.drew.heap.size) := hide hl4.out
  have hHeld : (fun y : World => y.cell? ⟨p, 0, none⟩ = some (.pointer (some ⟨r, 0, none⟩)) ∧ blk y g = some (.cells (stA S) 49 (0, 0))) w4.drew := ⟨(cell_of_block h5.out.blk (i := 0)).trans rfl, blk_of hg5.out⟩
  refine h_begin 9 (fun y : World => y.cell? ⟨p, 0, none⟩ = some (.pointer (some ⟨r, 0, none⟩)) ∧ blk y g = some (.cells (stA S) 49 (0, 0))) rfl (by kernel_rfl) hHeld ?_
  clear h4 hT4w hg4 hl4
  generalize w4.drew = w5 at *
  first
    | (refine h_run (i := 0) (v := ?_) hHeld rfl (by kernel_rfl) (by kernel_rfl) (by kernel_rfl) ?_ ?_ ?_
       rotate_left
       · rfl
       · (intro x hSx; (try dsimp only at hSx); go_simp <;> with_reducible rfl)
       simp only [Act.put, List.setIfInBounds_toArray, List.set_cons_zero, List.set_cons_succ])
    | (refine h_skip (i := 0) hHeld rfl (by kernel_rfl) (by kernel_rfl) (by kernel_rfl) ?_ ?_
       · rfl
       simp only [Act.put, List.setIfInBounds_toArray, List.set_cons_zero, List.set_cons_succ])
  first
    | (refine h_run (i := 1) (v := ?_) hHeld rfl (by kernel_rfl) (by kernel_rfl) (by kernel_rfl) ?_ ?_ ?_
       rotate_left
       · rfl
       · (intro x hSx; (try dsimp only at hSx); go_simp <;> with_reducible rfl)
       simp only [Act.put, List.setIfInBounds_toArray, List.set_cons_zero, List.set_cons_succ])
    | (refine h_skip (i := 1) hHeld rfl (by kernel_rfl) (by kernel_rfl) (by kernel_rfl) ?_ ?_
       · rfl
       simp only [Act.put, List.setIfInBounds_toArray, List.set_cons_zero, List.set_cons_succ])
  first
    | (refine h_run (i := 2) (v := ?_) hHeld rfl (by kernel_rfl) (by kernel_rfl) (by kernel_rfl) ?_ ?_ ?_
       rotate_left
       · rfl
       · (intro x hSx; (try dsimp only at hSx); go_simp <;> with_reducible rfl)
       simp only [Act.put, List.setIfInBounds_toArray, List.set_cons_zero, List.set_cons_succ])
    | (refine h_skip (i := 2) hHeld rfl (by kernel_rfl) (by kernel_rfl) (by kernel_rfl) ?_ ?_
       · rfl
       simp only [Act.put, List.setIfInBounds_toArray, List.set_cons_zero, List.set_cons_succ])
  first
    | (refine h_run (i := 3) (v := ?_) hHeld rfl (by kernel_rfl) (by kernel_rfl) (by kernel_rfl) ?_ ?_ ?_
       rotate_left
       · rfl
       · (intro x hSx; (try dsimp only at hSx); go_simp <;> with_reducible rfl)
       simp only [Act.put, List.setIfInBounds_toArray, List.set_cons_zero, List.set_cons_succ])
    | (refine h_skip (i := 3) hHeld rfl (by kernel_rfl) (by kernel_rfl) (by kernel_rfl) ?_ ?_
       · rfl
       simp only [Act.put, List.setIfInBounds_toArray, List.set_cons_zero, List.set_cons_succ])
  first
    | (refine h_run (i := 4) (v := ?_) hHeld rfl (by kernel_rfl) (by kernel_rfl) (by kernel_rfl) ?_ ?_ ?_
       rotate_left
       · rfl
       · (intro x hSx; (try dsimp only at hSx); go_simp <;> with_reducible rfl)
       simp only [Act.put, List.setIfInBounds_toArray, List.set_cons_zero, List.set_cons_succ])
    | (refine h_skip (i := 4) hHeld rfl (by kernel_rfl) (by kernel_rfl) (by kernel_rfl) ?_ ?_
       · rfl
       simp only [Act.put, List.setIfInBounds_toArray, List.set_cons_zero, List.set_cons_succ])
  first
    | (refine h_run (i := 5) (v := ?_) hHeld rfl (by kernel_rfl) (by kernel_rfl) (by kernel_rfl) ?_ ?_ ?_
       rotate_left
       · rfl
       · (intro x hSx; (try dsimp only at hSx); go_simp <;> with_reducible rfl)
       simp only [Act.put, List.setIfInBounds_toArray, List.set_cons_zero, List.set_cons_succ])
    | (refine h_skip (i := 5) hHeld rfl (by kernel_rfl) (by kernel_rfl) (by kernel_rfl) ?_ ?_
       · rfl
       simp only [Act.put, List.setIfInBounds_toArray, List.set_cons_zero, List.set_cons_succ])
  refine h_call (i := 6) (fun y : World => y.cell? ⟨p, 0, none⟩ = some (.pointer (some ⟨r, 0, none⟩)) ∧ blk y g = some (.cells (stA S) 49 (0, 0))) (fun _ h => h) (g_sum S w5) rfl (by kernel_rfl) rfl ?_ ?_
  · go_simp <;> with_reducible rfl
  rintro _ w6 ⟨hh, rfl, hB6⟩
  have h6 := Lib.hid (h5.out.below hB6)
  have hT6 : Hid (Touch w w6 (svFoot p r v)) := hide (hT5.out.trans (Touch.below hB6 _))
  have hl6 : Hid (lo ≤ w6.heap.size) := hide (Nat.le_trans hl5.out hB6.size)
  have hHeld : (fun y : World => y.cell? ⟨p, 0, none⟩ = some (.pointer (some ⟨r, 0, none⟩)) ∧ blk y g = some (.cells (stA S) 49 (0, 0))) w6 := ⟨(cell_of_block h6.out.blk (i := 0)).trans rfl, blk_of (hg5.out.keep (hB6.block g hg5.out.lt))⟩
  have hg6 : Hid (StAt w6 g S) := hide (hg5.out.keep (hB6.block g hg5.out.lt))
  have hpu := Lib.hid (RingE_put_any lo r 0 v4 (([] : List ((Nat → Int) × Int)).take (0 - 0)) S hh w6 h6.out.ring (by have := hbh.out; have := hkh.out; rw [List.length_take]; omega) (by have := hnh.out; rw [List.length_take]; omega) hl6.out)
  clear h5 hT5 hg5 hl5 hB6
  refine ⟨_, rfl, hHeld, ?_⟩
  simp only [Act.put, List.setIfInBounds_toArray, List.set_cons_zero, List.set_cons_succ]
  first
    | (refine h_run (i := 7) (v := ?_) hHeld rfl (by kernel_rfl) (by kernel_rfl) (by kernel_rfl) ?_ ?_ ?_
       rotate_left
       · rfl
       · (intro x hSx; (try dsimp only at hSx); go_simp <;> with_reducible rfl)
       simp only [Act.put, List.setIfInBounds_toArray, List.set_cons_zero, List.set_cons_succ])
    | (refine h_skip (i := 7) hHeld rfl (by kernel_rfl) (by kernel_rfl) (by kernel_rfl) ?_ ?_
       · rfl
       simp only [Act.put, List.setIfInBounds_toArray, List.set_cons_zero, List.set_cons_succ])
  refine h_call (i := 8) (fun y : World => y.cell? ⟨p, 0, none⟩ = some (.pointer (some ⟨r, 0, none⟩)) ∧ blk y g = some (.cells (stA S) 49 (0, 0))) (fun _ h => h) hpu.out rfl (by kernel_rfl) rfl ?_ ?_
  · go_simp <;> with_reducible rfl
  rintro _ w7 ⟨rfl, v7, hR7, hT7, hf7⟩
  have hend : Hid (SavePost w lo p r v 0 [] S 0 (.returned (.int .i64 0)) w7) := hide ⟨rfl, hh, SvPost.trans hT6.out hf4w.out ⟨v7, h6.out.turn hT7 hR7 rfl, hT7.mono (fun b _ hb => hb.elim (fun e => .inr (.inl e)) (fun e => .inr (.inr e))), hf7⟩⟩
  have hHeld : (fun y : World => y.cell? ⟨p, 0, none⟩ = some (.pointer (some ⟨r, 0, none⟩)) ∧ blk y g = some (.cells (stA S) 49 (0, 0))) w7 := ⟨(cell_of_block (h6.out.turn (L' := (putF 0 (([] : List ((Nat → Int) × Int)).take (0 - 0)) (S, hh)).2) hT7 hR7 rfl).blk (i := 0)).trans rfl, blk_of ((hT7.block g hg6.out.lt (fun e => e.elim (fun e => hgn.out r (.inr (.inl rfl)) e.symm) (fun e => hv4g.out g e rfl))).trans hg6.out)⟩
  refine ⟨_, rfl, hHeld, h_done (by kernel_rfl) ?_⟩
  simp only [Act.put, List.setIfInBounds_toArray, List.set_cons_zero, List.set_cons_succ]
  clear hR7 hT7 hf7 hHeld hpu
  go_wp2_with fail
  go_ret
  exact hend.out
end Go.Proofs.Ytmfagdbocidfjaa

/- The saved states: one is read. Conditions: what the blocks hold. -/
namespace Go.Proofs.Ytmfagdbocidfjaa
open Go.RowKit
set_option maxRecDepth 100000 in
/-- the state within an entry -/
theorem ent_state {W : World} {g : Nat} {S : Nat → Int} {hh : Int} (h : W.heap[g]? = some (.cells (entA S hh) 150 (0, 0))) :
    (Instr.loadAt 49 (.pointer (some ⟨g, 0, none⟩))).run Try.prog W = .ok (.agg (stA S)) W := by
  have hr : W.rangeAt g 0 (stA S).toList := fun i u hu => by
    have hu2 : (stA S)[i]? = some u := by rw [← Array.getElem?_toList]; exact hu
    have hi : i < 66 := by have := (Array.getElem?_eq_some_iff.1 hu2).1; rw [stA_size] at this; exact this
    rw [cell_of_block h, Nat.zero_add]
    unfold entA
    rw [Array.getElem?_push, if_neg (by rw [stA_size]; omega)]
    exact hu2
  have hl : (Try.prog.info? 49).map (·.size) = some (stA S).toList.length := by rw [Array.length_toList, stA_size]; exact st_info
  have := run_loadAt_mid (P := Try.prog) W g 0 49 (stA S).toList _ hr Try.underlying49 rfl hl
  rw [Array.toArray_toList] at this
  exact this
def SvAtPost (w : World) (S : Nat → Int) (e : Ending) (w' : World) : Prop := e = .returned (.tuple #[.agg (stA S), .int .i64 0]) ∧ Below w.heap.size w w'
attribute [local irreducible] entA stA enRow blk wLoad wLoadRes loadAns wStore wStoreRes storeAns Plain eBuild eSlice
attribute [local go_sem ↓] ld_st0 sto_st0 ld_en0 sto_en0
attribute [local go_sem] sto_st stA_size st_plain sto_en storeAns_some entA_size entA_plain blk_alloc_if blk_setRow_if blk_drew_at blk_drewN_at rowPut_some
set_option maxRecDepth 100000 in
set_option maxHeartbeats 4000000 in
theorem sv_at (lo p r first j : Nat) (v : Value) (L : List ((Nat → Int) × Int)) (S : Nat → Int) (hh : Int) (w : World) (h : SvAt w lo p r first v L) (hb : first + L.length ≤ 10000) (hL : L[j]? = some (S, hh)) :
    Calls Try.prog 40 #[.pointer (some ⟨p, 0, none⟩), .int .i64 ((first + j : Nat) : Int)] w (SvAtPost w S) := by
  have hz := zeroEnt
  have hz2 := zeroState
  have hB : Below w.heap.size w (w.alloc (.cells (stA fun _ => 0) 49)) := (Below.refl _ _).alloc (Nat.le_refl _) _
  have hg0 : Hid ((w.alloc (.cells (stA fun _ => 0) 49)).heap[w.heap.size]? = some (.cells (stA fun _ => 0) 49 (0, 0))) := hide (last0 _ _ _ rfl)
  have h0 := Lib.hid (h.below hB)
  have hj := (List.getElem?_eq_some_iff.1 hL).1
  have hat := Lib.hid (RingE_at lo r 64 first L.length j v L S hh _ (h.below hB).ring (by omega) hj hL)
  have hBh := Lib.hid hB
  generalize ((first + j : Nat) : Int) = i at *
  clear h hb hL hj hB
  go_enter Try.func40, Try.ntmps40
  go_upto_region 1 with (fail)
  generalize World.alloc w _ = w0 at *
  obtain ⟨g, hg⟩ : ∃ g, w.heap.size = g := ⟨_, rfl⟩
  have hgh := Lib.hid hg
  rw [hg] at hg0 ⊢
  clear hg
  have cp : w0.cell? ⟨p, 0, none⟩ = some (.pointer (some ⟨r, 0, none⟩)) := (cell_of_block h0.out.blk (i := 0)).trans rfl
  go_wp2_with fail
  refine hat.out.mono ?_
  rintro e w1 ⟨rfl, hB1⟩
  have hb0 : blk (w1.alloc (.cells (entA (fun _ => 0) 0) 150)) w1.heap.size = some (.cells (entA (fun _ => 0) 0) 150 (0, 0)) := blk_of (last0 _ _ _ rfl)
  have hg1 : Hid (w1.heap[g]? = some (.cells (stA fun _ => 0) 49 (0, 0))) := hide ((hB1.block g (Array.getElem?_eq_some_iff.1 hg0.out).1).trans hg0.out)
  have hB2 : Hid (Below w.heap.size w w1) := hide (hBh.out.trans (hB1.mono hBh.out.size))
  clear hB1 hat h0 hg0 hBh cp
  go_upto_region 2 with (fail)
  obtain ⟨k, hk⟩ : ∃ k, w1.heap.size = k := ⟨_, rfl⟩
  have hgk : g ≠ k := by have := (Array.getElem?_eq_some_iff.1 hg1.out).1; omega
  have hb3 : Hid (((w1.alloc (.cells (entA (fun _ => 0) 0) 150)).setRow w1.heap.size (entA S hh)).heap[w1.heap.size]? = some (.cells (entA S hh) 150 (0, 0))) := hide (setRow_heap _ _ _ _ _ _ (blk_heap hb0))
  have hB3 : Hid (Below w.heap.size w ((w1.alloc (.cells (entA (fun _ => 0) 0) 150)).setRow w1.heap.size (entA S hh))) := hide (below_setRow (hB2.out.alloc hB2.out.size _) hB2.out.size _)
  have hg3 : blk ((w1.alloc (.cells (entA (fun _ => 0) 0) 150)).setRow w1.heap.size (entA S hh)) g = some (.cells (stA fun _ => 0) 49 (0, 0)) := blk_of ((setRow_other _ _ _ _ (by rw [hk]; exact hgk)).trans (((Below.refl w1.heap.size w1).alloc (Nat.le_refl _) _).block g (Array.getElem?_eq_some_iff.1 hg1.out).1 |>.trans hg1.out))
  generalize World.setRow _ _ _ = w3 at *
  rw [hk] at hb3 ⊢
  clear hb0 hk
  have hld : (wLoad 49 (.pointer (some ⟨k, 0, none⟩))).run Try.prog w3 = .ok (.agg (stA S)) w3 := by rw [← ld_st0]; exact ent_state hb3.out
  have hr9 := Lib.hid (setRow_heap _ _ _ (stA S) _ _ (blk_heap hg3))
  have hend : Hid (SvAtPost w S (.returned (.tuple #[.agg (stA S), .int .i64 0])) (w3.setRow g (stA S))) := hide ⟨rfl, below_setRow hB3.out (by rw [hgh.out]; exact Nat.le_refl _) _⟩
  have hinf := st_infoA S
  go_wp2_with fail
  refine bodyPost_ret (v := .tuple #[.agg (stA S), .int .i64 0]) (results_row_tmp rfl _ _ g _ (stA S) (0, 0) _ (.int .i64 0) rfl rfl hr9.out Try.underlying49 rfl hinf) rfl hend.out
end Go.Proofs.Ytmfagdbocidfjaa
