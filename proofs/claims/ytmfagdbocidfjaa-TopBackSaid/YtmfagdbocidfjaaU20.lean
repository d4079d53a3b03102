import Derived.Test.YtmfagdbocidfjaaU19
import Derived.StillTailTactics
/- The ring of saved states: an entry more, when it is full. Conditions: what its blocks hold. -/
namespace Go.Proofs.Ytmfagdbocidfjaa
open Go.RowKit
set_option maxRecDepth 100000 in
theorem RingEAt.cast {W : World} {lo r room first n m : Nat} {v : Value} {xs : List Value} (h : RingEAt W lo r room first n v xs) (e : n = m) : RingEAt W lo r room first m v xs := by subst e; exact h
attribute [local irreducible] entA stA enRow blk wLoad wLoadRes loadAns wStore wStoreRes storeAns Plain eBuild eSlice
attribute [local go_sem ↓] ld_en0 sto_en0 eSlice_of
attribute [local go_sem] eSlice_1 ld_en sto_en loadAns_some storeAns_some entA_size entA_plain blk_alloc_if blk_setRow_if blk_drew_at blk_drewN_at rowPut_some
set_option maxRecDepth 100000 in
set_option maxHeartbeats 4000000 in
theorem RingE_put_full (lo r room first n : Nat) (v : Value) (L : List ((Nat → Int) × Int)) (S : Nat → Int) (hh : Int) (w : World) (h : RingEAt w lo r room first n v (enRow L)) (hb : first + n ≤ 1000000) (hn : n = room) (hn1 : 1 ≤ n) (hroom : room ≤ 100000) (hlo : lo ≤ w.heap.size) :
    Calls Try.prog 69 #[.pointer (some ⟨r, 0, none⟩), .agg (entA S hh)] w (RingEPost w lo r room (first + 1) n v (enRow (L.drop 1 ++ [(S, hh)])) (.int .i64 ((first + n : Nat) : Int))) := by
  have hB : Below w.heap.size w (w.alloc (.cells (entA S hh) 150)) := (Below.refl _ _).alloc (Nat.le_refl _) _
  have hb0 : blk (w.alloc (.cells (entA S hh) 150)) w.heap.size = some (.cells (entA S hh) 150 (0, 0)) := blk_of (last0 _ _ _ rfl)
  have hT0 : Hid (Touch w (w.alloc (.cells (entA S hh) 150)) (fun b => b = r ∨ v.ownBlock = some b)) := hide (Touch.below hB _)
  have h0 := Lib.hid (h.below hB)
  have e1 : ((n : Int) == (room : Int)) = true := by simp; omega
  have e2 : (n == room) = true := by simp; omega
  have hn1h := Lib.hid hn1
  have hnb : n ≤ 100000 := by omega
  have hlw : Hid (lo ≤ w.heap.size) := hide hlo
  have hl0 : Hid (lo ≤ (w.alloc (.cells (entA S hh) 150)).heap.size) := hide (Nat.le_trans hlo hB.size)
  have hbh := Lib.hid hb
  obtain ⟨b, off, cap, rfl⟩ : ∃ b off cap, v = .slice (some ⟨b, off, none⟩) n cap := by
    rcases h.row.2.2 with ⟨_, h0⟩ | ⟨b, off, cap, C, e, _⟩
    · omega
    · exact ⟨b, off, cap, e⟩
  have hrb : Hid (r < w.heap.size ∧ b < w.heap.size) := hide ⟨(Array.getElem?_eq_some_iff.1 h.blk).1, h.row.blt b rfl⟩
  have hcap : n ≤ cap := by obtain ⟨_, _, e, h2, _⟩ := h.row.form; cases e; exact h2
  clear h hlo hb hn hB
  go_enter Try.func69, Try.ntmps69
  go_upto_region 1 with (fail)
  generalize World.alloc w _ = w0 at *
  obtain ⟨g, hg⟩ : ∃ g, w.heap.size = g := ⟨_, rfl⟩
  have hgh := Lib.hid hg
  rw [hg] at hb0 ⊢
  clear hg
  have hnx := Lib.hid (RingE_next lo r room first n _ _ w0 h0.out hbh.out)
  go_wp2_with ((go_at_call 65; refine hnx.out.mono ?_; rintro e w1 ⟨rfl, q, rfl⟩; go_upto_region 2 with (fail)))
  have h1 := Lib.hid (h0.out.drewN q)
  have hT1 := Lib.hid (hT0.out.drewN q)
  have hl1 : Hid (lo ≤ (w0.drewN q).heap.size) := hide hl0.out
  have hb1 : blk (w0.drewN q) g = some (.cells (entA S hh) 150 (0, 0)) := (blk_drewN_at w0 q g).trans hb0
  clear hnx h0 hT0 hl0 hb0
  generalize w0.drewN q = w1 at *
  have c2 : w1.cell? ⟨r, 2, none⟩ = some (.slice (some ⟨b, off, none⟩) n cap) := (cell_of_block h1.out.blk (i := 2)).trans rfl
  have c0 : w1.cell? ⟨r, 0, none⟩ = some (.int .i64 (room : Nat)) := (cell_of_block h1.out.blk (i := 0)).trans rfl
  go_quiet (fail)
  have h2 := Lib.hid (h1.out.drewN nq)
  have hT2 := Lib.hid (hT1.out.drewN nq)
  have hl2 : Hid (lo ≤ (w1.drewN nq).heap.size) := hide hl1.out
  have hb2 : blk (w1.drewN nq) g = some (.cells (entA S hh) 150 (0, 0)) := (blk_drewN_at w1 nq g).trans hb1
  have hsz2 : Hid (w.heap.size ≤ (w1.drewN nq).heap.size) := hide hT1.out.size
  clear h1 hT1 hl1 c2 c0 hb1
  generalize w1.drewN nq = w2 at *
  go_upto_region 3 with (fail)
  have h3 := Lib.hid (h2.out.drewN 1)
  have hT3 := Lib.hid (hT2.out.drewN 1)
  have hl3 : Hid (lo ≤ (w2.drewN 1).heap.size) := hide hl2.out
  obtain ⟨ad, had, hadd⟩ : ∃ ad : Addr, (if cap = 1 then (⟨b, off, none⟩ : Addr) else ⟨b, off + 67, none⟩) = ad ∧ (1 < n → ad = ⟨b, off + 1 * 67, none⟩) := ⟨_, rfl, fun e => by rw [if_neg (by omega), Nat.one_mul]⟩
  obtain ⟨s6, c6, W6, hr6, hv6, hg6, hf6⟩ := v_drop (P := Try.prog) (S := 178) (T := 150) Try.underlying178 en_info2 (entA_size _ _) (by decide) (by decide) h3.out.row hl3.out hn1h.out (by omega) ad (cap - 1) hadd 178
  rw [← enRow_drop] at hv6
  have hr6h := Lib.hid hr6
  obtain ⟨hb6, hR6, hT6⟩ := h3.out.turn hg6 hv6
  have c2 : w2.cell? ⟨r, 2, none⟩ = some (.slice (some ⟨b, off, none⟩) n cap) := (cell_of_block h2.out.blk (i := 2)).trans rfl
  have c26 : W6.cell? ⟨r, 2, none⟩ = some (.slice (some ⟨b, off, none⟩) n cap) := (cell_of_block hb6 (i := 2)).trans rfl
  have f26 := frozen_of_row _ r 2 _ _ hb6
  have hR6h := Lib.hid hR6
  have hT6h : Hid (Touch w (W6.setCell ⟨r, 2, none⟩ (.slice s6 (n - 1) c6)) (fun p => p = r ∨ (Value.slice (some ⟨b, off, none⟩) n cap).ownBlock = some p)) := hide (hT3.out.trans (hT6.mono (fun k _ hk => .inl hk)))
  have hf6h : Hid (∀ p, (Value.slice s6 (n - 1) c6).ownBlock = some p → (Value.slice (some ⟨b, off, none⟩) n cap).ownBlock = some p ∨ w.heap.size ≤ p) := hide (fun p hp => (hf6 p hp).imp id (fun e => Nat.le_trans hsz2.out e))
  have hgn : Hid (g ≠ r ∧ g ≠ b) := hide ⟨by have := hrb.out; have := hgh.out; omega, by have := hrb.out; have := hgh.out; omega⟩
  have hbh2 : w2.heap[g]? = some (.cells (entA S hh) 150 (0, 0)) := blk_heap hb2
  have hb6' : blk (W6.setCell ⟨r, 2, none⟩ (.slice s6 (n - 1) c6)) g = some (.cells (entA S hh) 150 (0, 0)) := (blk_setCell_ne W6 r 2 g _ hgn.out.1).trans (blk_of ((hg6.block g (Array.getElem?_eq_some_iff.1 hbh2).1 (fun e => hgn.out.2 (Option.some.inj e))).trans hbh2))
  have hcap1 : 1 ≤ cap := by have := hn1h.out; omega
  clear hr6 hv6 hg6 hf6 hb6 hR6 hT6 h2 hadd hbh2 h3 hT3 hl3 hT2 hl2
  go_cut [] (fun wx => wx = W6.setCell ⟨r, 2, none⟩ (.slice s6 (n - 1) c6))
  case first =>
    have hn1 : 1 ≤ n := hn1h.out
    by_cases hck : cap = 1
    · rw [if_pos hck] at had
      subst had
      subst hck
      obtain rfl : n = 1 := by omega
      go_region_law (first | (refine step_app_run rfl (.tmp 23) (.tmp 28) _ _ rfl rfl rfl hr6h.out ?_))
      all_goals
        go_wp2_with fail
        go_meet
        rfl
    · rw [if_neg hck] at had
      subst had
      have hck2 : ¬ (cap : Int) = 1 := by omega
      have hn1i : (1 : Int) ≤ (n : Int) := by omega
      go_region_law (first | (refine step_app_run rfl (.tmp 23) (.tmp 28) _ _ rfl rfl rfl hr6h.out ?_))
      all_goals
        go_wp2_with fail
        go_meet
        rfl
  case rest =>
  subst hcut
  have hb2 := hb6'
  clear c2 c26 f26 hr6h hb6' had
  generalize World.setCell W6 _ _ = w3 at *
  have c1 : w3.cell? ⟨r, 1, none⟩ = some (.int .i64 (first : Nat)) := (cell_of_block hR6h.out.blk (i := 1)).trans rfl
  have f1 := frozen_of_row _ r 1 _ _ hR6h.out.blk
  have hwr : IntKind.i64.wrap ((first : Int) + 1) = ((first + 1 : Nat) : Int) := by rw [show (first : Int) + 1 = ((first + 1 : Nat) : Int) by omega]; exact IntWalk.i64_in _ (by have := hbh.out; omega)
  go_upto_region 5 with (fail)
  obtain ⟨q1, q2⟩ := hR6h.out.setFirst (m := first + 1)
  rw [show ((first + 1 : Nat) : Int) = (first : Int) + 1 by omega] at q1 q2
  have h2 := Lib.hid q1
  have hT2 : Hid (Touch w (w3.setCell ⟨r, 1, none⟩ (.int .i64 ((first : Int) + 1))) (fun p => p = r ∨ (Value.slice (some ⟨b, off, none⟩) n cap).ownBlock = some p)) := hide (hT6h.out.trans (q2.mono (fun k _ hk => .inl (.inl hk))))
  have hb3 : blk (w3.setCell ⟨r, 1, none⟩ (.int .i64 ((first : Int) + 1))) g = some (.cells (entA S hh) 150 (0, 0)) := (blk_setCell_ne w3 r 1 g _ hgn.out.1).trans hb2
  have hl2 : Hid (lo ≤ (w3.setCell ⟨r, 1, none⟩ (.int .i64 ((first : Int) + 1))).heap.size) := hide (Nat.le_trans hlw.out hT2.out.size)
  clear q1 q2 c1 f1 hb2 hR6h hT6h
  generalize World.setCell w3 _ _ = w4 at *
  have h3 := Lib.hid (h2.out.drewN 1)
  have hT3 := Lib.hid (hT2.out.drewN 1)
  have hl3 : Hid (lo ≤ (w4.drewN 1).heap.size) := hide hl2.out
  obtain ⟨s7, c7, W7, hr7, hv7, hg7, hf7⟩ := e_one h3.out.row hl3.out (by omega) S hh 178
  obtain ⟨hb7, hR7, hT7⟩ := h3.out.turn hg7 hv7
  have hr7h := Lib.hid hr7
  have hend : Hid (RingEPost w lo r room (first + 1) n (.slice (some ⟨b, off, none⟩) n cap) (enRow (L.drop 1 ++ [(S, hh)])) (.int .i64 ((first + n : Nat) : Int)) (.returned (.int .i64 ((first + n : Nat) : Int))) (W7.setCell ⟨r, 2, none⟩ (.slice s7 (n - 1 + 1) c7))) := hide (by
    refine ⟨rfl, _, hR7.cast (Nat.sub_add_cancel hn1h.out), hT3.out.trans (hT7.mono (fun k _ hk => ?_)), fun p hp => ?_⟩
    · rcases hk with hk | hk
      · exact .inl (.inl hk)
      · exact (hf6h.out k hk).imp .inr id
    · rcases hf7 p hp with hk | hk
      · exact hf6h.out p hk
      · exact .inr (Nat.le_trans hT3.out.size hk))
  have c2 : w4.cell? ⟨r, 2, none⟩ = some (.slice s6 (n - 1) c6) := (cell_of_block h2.out.blk (i := 2)).trans rfl
  have c26 : W7.cell? ⟨r, 2, none⟩ = some (.slice s6 (n - 1) c6) := (cell_of_block hb7 (i := 2)).trans rfl
  have f26 := frozen_of_row _ r 2 _ _ hb7
  have hc2 : (w4.alloc (.cells (entA S hh) 150)).cell? ⟨r, 2, none⟩ = some (.slice s6 (n - 1) c6) := (Below.cell (B := w4.heap.size) ((Below.refl _ _).alloc (Nat.le_refl _) _) (cell_block_lt c2)).trans c2
  have hbb2 : g < w4.heap.size := (Array.getElem?_eq_some_iff.1 (blk_heap hb3)).1
  have hbn : ¬ g = w4.heap.size := by omega
  have hrn : ¬ r = w4.heap.size := by have := cell_block_lt c2; show ¬ r = _; simp at this; omega
  clear hr7 hb7 hR7 hT7 hg7 hf7 hv7 h2 hT2 hl2 h3 hT3 hl3 hwr
  go_cut [] (fun wx => wx = W7.setCell ⟨r, 2, none⟩ (.slice s7 (n - 1 + 1) c7))
  case first =>
    go_region_law (first | (refine step_app_run rfl (.tmp 43) (.tmp 45) _ _ rfl rfl rfl hr7h.out ?_))
    all_goals
      go_wp2_with fail
      go_meet
      first | rfl | rw [Nat.sub_add_cancel hn1h.out]
  case rest =>
    subst hcut
    go_wp2_with fail
    go_ret
    exact hend.out
end Go.Proofs.Ytmfagdbocidfjaa

/- The ring of saved states: read, cut, begun anew. Conditions: what its blocks hold. -/
namespace Go.Proofs.Ytmfagdbocidfjaa
open Go.RowKit
attribute [local irreducible] entA stA enRow blk wLoad wLoadRes loadAns wStore wStoreRes storeAns Plain eBuild eSlice
attribute [local go_sem ↓] ld_en0 sto_en0 eSlice_of
attribute [local go_sem] eSlice_1 ld_en sto_en loadAns_some storeAns_some entA_size entA_plain blk_alloc_if blk_setRow_if blk_drew_at blk_drewN_at rowPut_some
set_option maxRecDepth 100000 in
set_option maxHeartbeats 2000000 in
theorem RingE_reset (lo r room first n i : Nat) (v : Value) (xs : List Value) (w : World) (h : RingEAt w lo r room first n v xs) :
    Calls Try.prog 66 #[.pointer (some ⟨r, 0, none⟩), .int .i64 (i : Nat)] w (RingEPost w lo r room i 0 v [] (.tuple #[])) := by
  have c1 : w.cell? ⟨r, 1, none⟩ = some (.int .i64 (first : Nat)) := (cell_of_block h.blk (i := 1)).trans rfl
  have f1 := frozen_of_row _ r 1 _ _ h.blk
  have c2 : w.cell? ⟨r, 2, none⟩ = some v := (cell_of_block h.blk (i := 2)).trans rfl
  have f2 := frozen_of_row _ r 2 _ _ h.blk
  have hend : Hid (RingEPost w lo r room i 0 v [] (.tuple #[]) (.returned (.tuple #[])) ((w.setCell ⟨r, 1, none⟩ (.int .i64 (i : Nat))).setCell ⟨r, 2, none⟩ (.slice none 0 0))) := hide ⟨rfl, .slice none 0 0, ⟨by rw [blk_set (blk_set h.blk 1 _) 2 _]; rfl, VAt.nil _ _ _ _, h.lr⟩, Touch.grown (only_set (only_set (only_refl w (some r)) 1 _) 2 _) (fun b hb => by injection hb with hb; exact .inl hb.symm), fun b hb => by cases hb⟩
  clear h
  go_enter Try.func66, Try.ntmps66
  go_wp2_with fail
  go_end0
  exact hend.out
set_option maxRecDepth 100000 in
set_option maxHeartbeats 4000000 in
theorem RingE_cut_no (lo r room first n i : Nat) (v : Value) (xs : List Value) (w : World) (h : RingEAt w lo r room first n v xs) (hb : first + n ≤ 1000000) (hi : first + n ≤ i) (_hi2 : i ≤ 1000000) :
    Calls Try.prog 68 #[.pointer (some ⟨r, 0, none⟩), .int .i64 (i : Nat)] w (fun e w' => e = .returned (.tuple #[]) ∧ ∃ q, w' = w.drewN q) := by
  have c1 : w.cell? ⟨r, 1, none⟩ = some (.int .i64 (first : Nat)) := (cell_of_block h.blk (i := 1)).trans rfl
  have hnx := Lib.hid (RingE_next lo r room first n v xs w h hb)
  have d0 : decide ((i : Int) < (first : Int)) = false := decide_eq_false (by omega)
  have d1 : decide (i < first) = false := decide_eq_false (by omega)
  obtain ⟨z, hz⟩ : ∃ z : Int, ((first + n : Nat) : Int) = z := ⟨_, rfl⟩
  have d2 : decide ((i : Int) < z) = false := decide_eq_false (by omega)
  rw [hz] at hnx
  clear h hb hi _hi2 hz
  go_enter Try.func68, Try.ntmps68
  go_wp2_with fail
  refine hnx.out.mono ?_
  rintro e w1 ⟨rfl, q, rfl⟩
  go_wp2_with fail
  go_end0
  exact ⟨rfl, _, rfl⟩
set_option maxRecDepth 100000 in
theorem VAt.take {W : World} {lo b off n cap k sz : Nat} {T : TypeId} {xs : List Value} (h : VAt W lo T sz (.slice (some ⟨b, off, none⟩) n cap) n xs) (hk : k ≤ n) : VAt W lo T sz (.slice (some ⟨b, off, none⟩) k k) k (xs.take (k * sz)) := by
  refine ⟨by rw [List.length_take, h.1]; exact Nat.min_eq_left (Nat.mul_le_mul_right _ hk), fun u hu => h.2.1 u (List.mem_of_mem_take hu), ?_⟩
  rcases h.2.2 with ⟨h2, _⟩ | ⟨b', off', cap', C, hv, h2, h3, h4, h5, h6, h7⟩
  · cases h2
  · cases hv
    refine .inr ⟨b, off, k, C, rfl, h2, h3, Nat.le_refl _, by omega, fun hk0 => ?_, fun j u hj => ?_⟩
    · have := h6 (by omega)
      have := Nat.mul_le_mul_right sz (Nat.le_trans hk h4)
      omega
    · rw [List.getElem?_take] at hj
      split at hj
      · exact h7 j u hj
      · cases hj
set_option maxRecDepth 100000 in
set_option maxHeartbeats 4000000 in
theorem RingE_cut (lo r room first n b off cap k : Nat) (L : List ((Nat → Int) × Int)) (w : World) (h : RingEAt w lo r room first n (.slice (some ⟨b, off, none⟩) n cap) (enRow L)) (hb : first + n ≤ 1000000) (hk : k < n) :
    Calls Try.prog 68 #[.pointer (some ⟨r, 0, none⟩), .int .i64 ((first + k : Nat) : Int)] w (RingEPost w lo r room first k (.slice (some ⟨b, off, none⟩) n cap) (enRow (L.take k)) (.tuple #[])) := by
  have c1 : w.cell? ⟨r, 1, none⟩ = some (.int .i64 (first : Nat)) := (cell_of_block h.blk (i := 1)).trans rfl
  have c2 : w.cell? ⟨r, 2, none⟩ = some (.slice (some ⟨b, off, none⟩) n cap) := (cell_of_block h.blk (i := 2)).trans rfl
  have f2 := frozen_of_row _ r 2 _ _ h.blk
  have hnx := Lib.hid (RingE_next lo r room first n _ (enRow L) w h hb)
  have hcap : n ≤ cap := by obtain ⟨_, _, e, h2, _⟩ := h.row.form; cases e; exact h2
  have hend : Hid (∀ q, RingEPost w lo r room first k (.slice (some ⟨b, off, none⟩) n cap) (enRow (L.take k)) (.tuple #[]) (.returned (.tuple #[])) ((w.drewN q).setCell ⟨r, 2, none⟩ (.slice (some ⟨b, off, none⟩) k k))) := hide (fun q => by
    obtain ⟨_, h2, h3⟩ := (h.drewN q).turn (only_refl _ _) ((h.drewN q).row.take (Nat.le_of_lt hk))
    rw [← enRow_take] at h2
    exact ⟨rfl, _, h2, ((Touch.refl w _).drewN q).trans (h3.mono (fun k _ hk => .inl hk)), fun b hb => .inl hb⟩)
  obtain ⟨i, hi⟩ : ∃ i : Int, ((first + k : Nat) : Int) = i := ⟨_, rfl⟩
  obtain ⟨z, hz⟩ : ∃ z : Int, ((first + n : Nat) : Int) = z := ⟨_, rfl⟩
  have d0 : decide (i < (first : Int)) = false := decide_eq_false (by omega)
  have d2 : decide (i < z) = true := decide_eq_true (by omega)
  have hs : IntKind.i64.wrap (i - (first : Int)) = (k : Int) := by rw [show i - (first : Int) = (k : Int) by omega]; exact IntWalk.i64_in _ (by omega)
  have k1 : (k : Int) ≤ (cap : Int) := by omega
  rw [hz] at hnx
  rw [hi]
  clear h hb hk hz hi
  go_enter Try.func68, Try.ntmps68
  go_wp2_with fail
  refine hnx.out.mono ?_
  rintro e w1 ⟨rfl, q, rfl⟩
  go_upto_region 3 with (fail)
  have c1q : (w.drewN q).cell? ⟨r, 1, none⟩ = some (.int .i64 (first : Nat)) := c1
  have c2q : (w.drewN q).cell? ⟨r, 2, none⟩ = some (.slice (some ⟨b, off, none⟩) n cap) := c2
  have f2q : (w.drewN q).frozen? ⟨r, 2, none⟩ = false := f2
  have hend2 : Hid (RingEPost w lo r room first k (.slice (some ⟨b, off, none⟩) n cap) (enRow (L.take k)) (.tuple #[]) (.returned (.tuple #[])) (((w.drewN q).drew).setCell ⟨r, 2, none⟩ (.slice (some ⟨b, off, none⟩) k k))) := hide (hend.out (q + 1))
  clear hend hnx c1 c2 f2
  generalize w.drewN q = w2 at *
  go_still_tail 18, (by kernel_rfl)
  trace_state
  go_wp2_with fail
  go_end0
  exact hend2.out
def AtPost (w : World) (S : Nat → Int) (hh : Int) (e : Ending) (w' : World) : Prop := e = .returned (.tuple #[.agg (entA S hh), .int .i64 0]) ∧ Below w.heap.size w w'
set_option maxRecDepth 100000 in
set_option maxHeartbeats 4000000 in
theorem RingE_at (lo r room first n j : Nat) (v : Value) (L : List ((Nat → Int) × Int)) (S : Nat → Int) (hh : Int) (w : World) (h : RingEAt w lo r room first n v (enRow L)) (hb : first + n ≤ 100000) (hj : j < n) (hL : L[j]? = some (S, hh)) :
    Calls Try.prog 75 #[.pointer (some ⟨r, 0, none⟩), .int .i64 ((first + j : Nat) : Int)] w (AtPost w S hh) := by
  have hB : Below w.heap.size w ((w.alloc (.cells (entA (fun _ => 0) 0) 150)).alloc (.cells (entA (fun _ => 0) 0) 150)) := (two_alloc w _ _).2.2.2
  have hg0 : blk ((w.alloc (.cells (entA (fun _ => 0) 0) 150)).alloc (.cells (entA (fun _ => 0) 0) 150)) w.heap.size = some (.cells (entA (fun _ => 0) 0) 150 (0, 0)) := blk_of (two_alloc w _ _).1
  have h1 := Lib.hid (h.below hB)
  have hBh := Lib.hid hB
  have hr : ringP first n ((first + j : Nat) : Int) = (j : Int) := by unfold ringP; rw [if_neg (by omega)]; omega
  obtain ⟨i, hi⟩ : ∃ i : Int, ((first + j : Nat) : Int) = i := ⟨_, rfl⟩
  have hrh := Lib.hid hr
  have hih := Lib.hid hi
  have hbh : Hid (first + n ≤ 1000000) := hide (by omega)
  have hib : Hid (-1000000 ≤ i ∧ i ≤ 1000000) := hide (by omega)
  have hLh := Lib.hid hL
  have hz := zeroEnt
  obtain ⟨b, off, cap, rfl⟩ : ∃ b off cap, v = .slice (some ⟨b, off, none⟩) n cap := by
    rcases h.row.2.2 with ⟨_, h0⟩ | ⟨b, off, cap, C, e, _⟩
    · omega
    · exact ⟨b, off, cap, e⟩
  have j1 : (j : Int) < (n : Int) := by omega
  rw [hi]
  clear h hb hL hB hr hi
  go_enter Try.func75, Try.ntmps75
  go_upto_region 2 with (fail)
  generalize World.alloc (World.alloc w _) _ = w0 at *
  obtain ⟨g, hg⟩ : ∃ g, w.heap.size = g := ⟨_, rfl⟩
  have hgh := Lib.hid hg
  rw [hg] at hg0 ⊢
  clear hg
  have hpl := Lib.hid (RingE_place lo r room first n _ _ i w0 h1.out hbh.out hib.out)
  rw [show ringP first n i = (j : Int) from by rw [← hih.out]; exact hrh.out] at hpl
  go_wp2_with fail
  refine hpl.out.mono ?_
  rintro e w1 ⟨rfl, q, rfl⟩
  have h2 := Lib.hid (h1.out.drewN q)
  have hB2 : Hid (Below w.heap.size w (w0.drewN q)) := hide (below_drewN hBh.out q)
  have hg2 : blk (w0.drewN q) g = some (.cells (entA (fun _ => 0) 0) 150 (0, 0)) := (blk_drewN_at w0 q g).trans hg0
  clear h1 hBh hg0 hpl
  generalize w0.drewN q = w2 at *
  have c2 : w2.cell? ⟨r, 2, none⟩ = some (.slice (some ⟨b, off, none⟩) n cap) := (cell_of_block h2.out.blk (i := 2)).trans rfl
  have hld : (wLoad 150 (.pointer (some ⟨b, off + j * 67, none⟩))).run Try.prog w2 = .ok (.agg (entA S hh)) w2 := by rw [← ld_en0]; exact ent_load h2.out.row hLh.out
  have hbg : Hid (w2.heap[g]? = some (.cells (entA (fun _ => 0) 0) 150 (0, 0))) := hide (blk_heap hg2)
  have hr9 := Lib.hid (setRow_heap _ _ _ (entA S hh) _ _ hbg.out)
  have hend : Hid (AtPost w S hh (.returned (.tuple #[.agg (entA S hh), .int .i64 0])) (w2.setRow g (entA S hh))) := hide ⟨rfl, below_setRow hB2.out (by rw [hgh.out]; exact Nat.le_refl _) _⟩
  have hinf : (Try.prog.info? 150).map (·.size) = some (entA S hh).size := by rw [entA_size]; exact en_info
  clear h2 hB2 hbg
  go_wp2_with fail
  refine bodyPost_ret (v := .tuple #[.agg (entA S hh), .int .i64 0]) (results_row_tmp rfl _ _ g _ (entA S hh) (0, 0) _ (.int .i64 0) rfl rfl hr9.out Try.underlying150 rfl hinf) rfl hend.out
end Go.Proofs.Ytmfagdbocidfjaa

/- The saved states: what is kept, and what a call leaves. Lemmas alone. -/
namespace Go.Proofs.Ytmfagdbocidfjaa
open Go.RowKit
set_option maxRecDepth 100000 in
theorem RingEAt.castL {W : World} {lo r room first n m : Nat} {v : Value} {xs ys : List Value} (h : RingEAt W lo r room first n v xs) (e : n = m) (e2 : xs = ys) : RingEAt W lo r room first m v ys := by subst e; subst e2; exact h
set_option maxRecDepth 100000 in
theorem enRow_nil : enRow [] = [] := rfl
/-- an entry more: the first one goes, if there are 64 -/
def putF (first : Nat) (L : List ((Nat → Int) × Int)) (x : (Nat → Int) × Int) : Nat × List ((Nat → Int) × Int) := if L.length = 64 then (first + 1, L.drop 1 ++ [x]) else (first, L ++ [x])
set_option maxRecDepth 100000 in
theorem RingE_put_any (lo r first : Nat) (v : Value) (L : List ((Nat → Int) × Int)) (S : Nat → Int) (hh : Int) (w : World) (h : RingEAt w lo r 64 first L.length v (enRow L)) (hb : first + L.length ≤ 1000000) (hn : L.length ≤ 64) (hlo : lo ≤ w.heap.size) :
    Calls Try.prog 69 #[.pointer (some ⟨r, 0, none⟩), .agg (entA S hh)] w (RingEPost w lo r 64 (putF first L (S, hh)).1 (putF first L (S, hh)).2.length v (enRow (putF first L (S, hh)).2) (.int .i64 ((first + L.length : Nat) : Int))) := by
  by_cases e : L.length = 64
  · have hp : putF first L (S, hh) = (first + 1, L.drop 1 ++ [(S, hh)]) := by unfold putF; rw [if_pos e]
    rw [hp]
    have hl : L.length = (L.drop 1 ++ [(S, hh)]).length := by rw [List.length_append, List.length_drop]; simp; omega
    have := RingE_put_full lo r 64 first L.length v L S hh w h hb e (by omega) (by omega) hlo
    refine this.mono ?_
    rintro e w' ⟨rfl, v', hR, hT, hf⟩
    exact ⟨rfl, v', hR.cast hl, hT, hf⟩
  · have hp : putF first L (S, hh) = (first, L ++ [(S, hh)]) := by unfold putF; rw [if_neg e]
    rw [hp]
    refine (RingE_put lo r 64 first L.length v L S hh w h hb (by omega) (by omega) hlo).mono ?_
    rintro e w' ⟨rfl, v', hR, hT, hf⟩
    exact ⟨rfl, v', hR.cast (by simp), hT, hf⟩
set_option maxRecDepth 100000 in
theorem RingE_cut_any (lo r first k : Nat) (v : Value) (L : List ((Nat → Int) × Int)) (w : World) (h : RingEAt w lo r 64 first L.length v (enRow L)) (hb : first + L.length ≤ 1000000) (hk : k ≤ L.length) :
    Calls Try.prog 68 #[.pointer (some ⟨r, 0, none⟩), .int .i64 ((first + k : Nat) : Int)] w (RingEPost w lo r 64 first (L.take k).length v (enRow (L.take k)) (.tuple #[])) := by
  by_cases e : k = L.length
  · subst e
    rw [List.take_length]
    refine (RingE_cut_no lo r 64 first L.length _ v (enRow L) w h hb (Nat.le_refl _) (by omega)).mono ?_
    rintro e w' ⟨rfl, q, rfl⟩
    exact ⟨rfl, v, h.drewN q, (Touch.refl w _).drewN q, fun b hb => .inl hb⟩
  · obtain ⟨b, off, cap, rfl⟩ : ∃ b off cap, v = .slice (some ⟨b, off, none⟩) L.length cap := by
      rcases h.row.2.2 with ⟨_, h0⟩ | ⟨b, off, cap, C, e, _⟩
      · omega
      · exact ⟨b, off, cap, e⟩
    refine (RingE_cut lo r 64 first L.length b off cap k L w h hb (by omega)).mono ?_
    rintro e w' ⟨rfl, v', hR, hT, hf⟩
    exact ⟨rfl, v', hR.cast (by rw [List.length_take]; omega), hT, hf⟩
/-- the saved states: their block, and their ring -/
structure SvAt (W : World) (lo p r first : Nat) (v : Value) (L : List ((Nat → Int) × Int)) : Prop where
  blk : W.heap[p]? = some (.cells #[.pointer (some ⟨r, 0, none⟩)] 152 (0, 0))
  ring : RingEAt W lo r 64 first L.length v (enRow L)
  lp : lo ≤ p
def svFoot (p r : Nat) (v : Value) (b : Nat) : Prop := b = p ∨ b = r ∨ v.ownBlock = some b
def SvPost (W : World) (lo p r : Nat) (v : Value) (first : Nat) (L : List ((Nat → Int) × Int)) (W' : World) : Prop :=
  ∃ v', SvAt W' lo p r first v' L ∧ Touch W W' (svFoot p r v) ∧ (∀ b, v'.ownBlock = some b → v.ownBlock = some b ∨ W.heap.size ≤ b)
section
variable {W W' : World} {lo p r first : Nat} {v v' : Value} {L L' : List ((Nat → Int) × Int)}
set_option maxRecDepth 100000 in
theorem SvAt.keep (h : SvAt W lo p r first v L) (e : ∀ b, svFoot p r v b → W'.heap[b]? = W.heap[b]?) : SvAt W' lo p r first v L :=
  ⟨(e p (.inl rfl)).trans h.blk, h.ring.keep (e r (.inr (.inl rfl))) (fun b hb => e b (.inr (.inr hb))), h.lp⟩
set_option maxRecDepth 100000 in
theorem SvAt.drewN (h : SvAt W lo p r first v L) (q : Nat) : SvAt (W.drewN q) lo p r first v L := h.keep fun _ _ => rfl
set_option maxRecDepth 100000 in
theorem SvAt.lt (h : SvAt W lo p r first v L) : ∀ b, svFoot p r v b → b < W.heap.size := by
  rintro b (rfl | rfl | hb)
  · exact (Array.getElem?_eq_some_iff.1 h.blk).1
  · exact (Array.getElem?_eq_some_iff.1 h.ring.blk).1
  · exact h.ring.row.blt b hb
set_option maxRecDepth 100000 in
theorem SvAt.ge (h : SvAt W lo p r first v L) : ∀ b, svFoot p r v b → lo ≤ b := by
  rintro b (rfl | rfl | hb)
  · exact h.lp
  · exact h.ring.lr
  · exact (h.ring.row.lt b hb).1
set_option maxRecDepth 100000 in
theorem SvAt.below (h : SvAt W lo p r first v L) (hB : Below W.heap.size W W') : SvAt W' lo p r first v L := h.keep fun b hb => hB.block b (h.lt b hb)
set_option maxRecDepth 100000 in
theorem SvAt.turn (h : SvAt W lo p r first v L) {first' n : Nat} (hT : Touch W W' (fun b => b = r ∨ v.ownBlock = some b)) (hR : RingEAt W' lo r 64 first' n v' (enRow L')) (hn : n = L'.length) : SvAt W' lo p r first' v' L' := by
  subst hn
  have k1 : W'.heap[p]? = W.heap[p]? := hT.block p (h.lt p (.inl rfl)) (fun e => e.elim (fun e => bty_ne h.blk h.ring.blk (by decide) e) (fun e => h.ring.row.ne h.blk (by decide) p e rfl))
  exact ⟨k1.trans h.blk, hR, h.lp⟩
set_option maxRecDepth 100000 in
theorem SvPost.trans {W1 : World} {v1 : Value} {f2 : Nat} {L2 : List ((Nat → Int) × Int)} (hT : Touch W W1 (svFoot p r v)) (hf : ∀ b, v1.ownBlock = some b → v.ownBlock = some b ∨ W.heap.size ≤ b) (h : SvPost W1 lo p r v1 f2 L2 W') : SvPost W lo p r v f2 L2 W' := by
  obtain ⟨v2, h1, h2, h3⟩ := h
  refine ⟨v2, h1, hT.trans (h2.mono (fun b _ hb => ?_)), fun b hb => ?_⟩
  · rcases hb with hb | hb | hb
    · exact .inl (.inl hb)
    · exact .inl (.inr (.inl hb))
    · exact (hf b hb).imp (fun e => .inr (.inr e)) id
  · rcases h3 b hb with hb | hb
    · exact hf b hb
    · exact .inr (Nat.le_trans hT.size hb)
end
def NewSvPost (w : World) (e : Ending) (w' : World) : Prop := ∃ p r v, e = .returned (.tuple #[.pointer (some ⟨p, 0, none⟩), .int .i64 0]) ∧ SvAt w' w.heap.size p r 0 v [] ∧ Below w.heap.size w w'
set_option maxRecDepth 100000 in
set_option maxHeartbeats 1000000 in
theorem sv_new (w : World) : Calls Try.prog 29 #[.int .i64 64] w (NewSvPost w) := by
  obtain ⟨h0, h1, hs, hB⟩ := two_alloc w (.cells #[.int .i64 64, .int .i64 0, .slice none 0 0] 180) (.cells #[.pointer (some ⟨w.heap.size, 0, none⟩)] 152)
  have hend : Hid (NewSvPost w (.returned (.tuple #[.pointer (some ⟨w.heap.size + 1, 0, none⟩), .int .i64 0])) ((w.alloc (.cells #[.int .i64 64, .int .i64 0, .slice none 0 0] 180)).alloc (.cells #[.pointer (some ⟨w.heap.size, 0, none⟩)] 152))) :=
    hide ⟨_, _, .slice none 0 0, rfl, ⟨h1, ⟨h0, VAt.nil _ _ _ _, Nat.le_refl _⟩, by omega⟩, hB⟩
  clear h0 h1 hs hB
  go_enter Try.func29, Try.ntmps29
  go_wp2_with fail
  refine (RingE_new 64 w (by omega)).mono ?_
  rintro e w1 ⟨rfl, rfl⟩
  go_wp2_with fail
  go_ret2
  exact hend.out
end Go.Proofs.Ytmfagdbocidfjaa
