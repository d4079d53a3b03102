import Derived.Test.YtmfagdbocidfjaaU30
/- The walk of TopBack. -/
namespace Go.Proofs.Ytmfagdbocidfjaa
open Go.RowKit
def LawEnd (w : World) (e : Ending) (w' : World) : Prop := e = .returned (.bool true) ∧ Below w.heap.size w w'
attribute [local irreducible] stA newF stepF blk wLoad wLoadRes loadAns wStore wStoreRes storeAns Plain
attribute [local go_sem ↓] ld_st0 sto_st0 eqGuard_st st_eql
attribute [local go_sem] ld_st loadAns_some sto_st stA_size st_plain storeAns_some blk_alloc_if blk_setRow_if blk_drew_at blk_drewN_at rowPut_some
set_option maxRecDepth 100000 in
set_option maxHeartbeats 16000000 in
theorem topBack_walk (v0 : Value) (a1 : Option Addr) (len1 cap1 : Nat) (w : World) (w0 : IsAgg [some .u32, some .i64, some .i64, some .i64] v0) (w1 : IsRec [none, some .u16] w a1 len1 cap1) :
    Calls Try.prog 3 #[v0, .slice a1 len1 cap1] w fun e w' => e = .returned (.bool true) ∧ Below w.heap.size w w' := by
  obtain ⟨rm, xi, hcalls⟩ := calls_open w1
  obtain ⟨seed, loc, del, ah, rfl, ws, -, -, -⟩ := agg4 w0
  have hsd : 0 ≤ seed ∧ seed < 4294967296 := by
    have : 0 ≤ seed ∧ seed ≤ 4294967295 := by simpa [Lit.wf, IntKind.min, IntKind.max, IntKind.signed, IntKind.bits] using ws
    omega
  have hcl := Lib.hid hcalls
  have hsdh := Lib.hid hsd
  have hg0 : Hid ((w.alloc (.cells #[.int .u32 seed, .int .i64 loc, .int .i64 del, .int .i64 ah] 24)).heap[w.heap.size]? = some (.cells #[.int .u32 seed, .int .i64 loc, .int .i64 del, .int .i64 ah] 24 (0, 0))) := hide (last0 _ _ _ rfl)
  have hB0 : Hid (Below w.heap.size w (w.alloc (.cells #[.int .u32 seed, .int .i64 loc, .int .i64 del, .int .i64 ah] 24))) := hide ((Below.refl _ _).alloc (Nat.le_refl _) _)
  clear w0 w1 ws hcalls hsd
  go_enter Try.func3, Try.ntmps3
  go_upto_region 1 with (fail)
  generalize World.alloc w _ = w2 at *
  obtain ⟨g2, hg2⟩ : ∃ g2, w.heap.size = g2 := ⟨_, rfl⟩
  have hg2h := Lib.hid hg2
  rw [hg2] at hg0 ⊢
  clear hg2
  go_wp2_with fail
  refine (tb_awake w2).mono ?_
  rintro e w3 ⟨rfl, hB3⟩
  have hg3 : Hid (w3.heap[g2]? = some (.cells #[.int .u32 seed, .int .i64 loc, .int .i64 del, .int .i64 ah] 24 (0, 0))) := hide ((hB3.block g2 (Array.getElem?_eq_some_iff.1 hg0.out).1).trans hg0.out)
  have hB4 : Hid (Below w.heap.size w w3) := hide (hB0.out.trans (hB3.mono hB0.out.size))
  clear hg0 hB0 hB3
  have c0 : w3.cell? ⟨g2, 0, none⟩ = some (.int .u32 seed) := (cell_of_block hg3.out).trans rfl
  have c1 : w3.cell? ⟨g2, 1, none⟩ = some (.int .i64 loc) := (cell_of_block hg3.out).trans rfl
  have c2 : w3.cell? ⟨g2, 2, none⟩ = some (.int .i64 del) := (cell_of_block hg3.out).trans rfl
  have c3 : w3.cell? ⟨g2, 3, none⟩ = some (.int .i64 ah) := (cell_of_block hg3.out).trans rfl
  have bad : Hid (loc < 0 ∨ 1 < loc ∨ ah < 1 ∨ 16 < ah ∨ del < 0 ∨ 8 < del → Calls Try.prog 6 #[.agg #[.int .u32 seed, .int .i64 loc, .int .i64 del, .int .i64 ah]] w3 (NoPost w3)) := hide (fun hb => by
    by_cases hb1 : loc < 0 ∨ 1 < loc ∨ ah < 1 ∨ 16 < ah
    · exact e_new_no seed loc del ah w3 hb1
    · obtain ⟨l, rfl⟩ : ∃ l : Nat, loc = (l : Nat) := ⟨loc.toNat, by omega⟩
      obtain ⟨a, rfl⟩ : ∃ a : Nat, ah = (a : Nat) := ⟨ah.toNat, by omega⟩
      exact e_new_del seed l del a w3 (by omega) (by omega) (by omega))
  by_cases k1 : loc < 0
  · have d1 : decide (loc < 0) = true := decide_eq_true k1
    have kn := Lib.hid (bad.out (by omega))
    go_wp2_with fail
    refine kn.out.mono ?_
    rintro e w4 ⟨rfl, hB5⟩
    have hg4 : Hid (w4.heap[g2]? = some (.cells #[.int .u32 seed, .int .i64 loc, .int .i64 del, .int .i64 ah] 24 (0, 0))) := hide ((hB5.block g2 (Array.getElem?_eq_some_iff.1 hg3.out).1).trans hg3.out)
    have hend : Hid (LawEnd w (.returned (.bool true)) w4) := hide ⟨rfl, hB4.out.trans (hB5.mono hB4.out.size)⟩
    clear hB5 c0 c1 c2 c3
    have c1 : w4.cell? ⟨g2, 1, none⟩ = some (.int .i64 loc) := (cell_of_block hg4.out).trans rfl
    have c2 : w4.cell? ⟨g2, 2, none⟩ = some (.int .i64 del) := (cell_of_block hg4.out).trans rfl
    have c3 : w4.cell? ⟨g2, 3, none⟩ = some (.int .i64 ah) := (cell_of_block hg4.out).trans rfl
    go_wp2_with fail
    go_ret
    exact hend.out
  have d1 : decide (loc < 0) = false := decide_eq_false k1
  by_cases k2 : 1 < loc
  · have d2 : decide (1 < loc) = true := decide_eq_true k2
    have kn := Lib.hid (bad.out (by omega))
    go_wp2_with fail
    refine kn.out.mono ?_
    rintro e w4 ⟨rfl, hB5⟩
    have hg4 : Hid (w4.heap[g2]? = some (.cells #[.int .u32 seed, .int .i64 loc, .int .i64 del, .int .i64 ah] 24 (0, 0))) := hide ((hB5.block g2 (Array.getElem?_eq_some_iff.1 hg3.out).1).trans hg3.out)
    have hend : Hid (LawEnd w (.returned (.bool true)) w4) := hide ⟨rfl, hB4.out.trans (hB5.mono hB4.out.size)⟩
    clear hB5 c0 c1 c2 c3
    have c1 : w4.cell? ⟨g2, 1, none⟩ = some (.int .i64 loc) := (cell_of_block hg4.out).trans rfl
    have c2 : w4.cell? ⟨g2, 2, none⟩ = some (.int .i64 del) := (cell_of_block hg4.out).trans rfl
    have c3 : w4.cell? ⟨g2, 3, none⟩ = some (.int .i64 ah) := (cell_of_block hg4.out).trans rfl
    go_wp2_with fail
    go_ret
    exact hend.out
  have d2 : decide (1 < loc) = false := decide_eq_false k2
  by_cases k3 : del < 0
  · have d3 : decide (del < 0) = true := decide_eq_true k3
    have kn := Lib.hid (bad.out (by omega))
    go_wp2_with fail
    refine kn.out.mono ?_
    rintro e w4 ⟨rfl, hB5⟩
    have hg4 : Hid (w4.heap[g2]? = some (.cells #[.int .u32 seed, .int .i64 loc, .int .i64 del, .int .i64 ah] 24 (0, 0))) := hide ((hB5.block g2 (Array.getElem?_eq_some_iff.1 hg3.out).1).trans hg3.out)
    have hend : Hid (LawEnd w (.returned (.bool true)) w4) := hide ⟨rfl, hB4.out.trans (hB5.mono hB4.out.size)⟩
    clear hB5 c0 c1 c2 c3
    have c1 : w4.cell? ⟨g2, 1, none⟩ = some (.int .i64 loc) := (cell_of_block hg4.out).trans rfl
    have c2 : w4.cell? ⟨g2, 2, none⟩ = some (.int .i64 del) := (cell_of_block hg4.out).trans rfl
    have c3 : w4.cell? ⟨g2, 3, none⟩ = some (.int .i64 ah) := (cell_of_block hg4.out).trans rfl
    go_wp2_with fail
    go_ret
    exact hend.out
  have d3 : decide (del < 0) = false := decide_eq_false k3
  by_cases k4 : 8 < del
  · have d4 : decide (8 < del) = true := decide_eq_true k4
    have kn := Lib.hid (bad.out (by omega))
    go_wp2_with fail
    refine kn.out.mono ?_
    rintro e w4 ⟨rfl, hB5⟩
    have hg4 : Hid (w4.heap[g2]? = some (.cells #[.int .u32 seed, .int .i64 loc, .int .i64 del, .int .i64 ah] 24 (0, 0))) := hide ((hB5.block g2 (Array.getElem?_eq_some_iff.1 hg3.out).1).trans hg3.out)
    have hend : Hid (LawEnd w (.returned (.bool true)) w4) := hide ⟨rfl, hB4.out.trans (hB5.mono hB4.out.size)⟩
    clear hB5 c0 c1 c2 c3
    have c1 : w4.cell? ⟨g2, 1, none⟩ = some (.int .i64 loc) := (cell_of_block hg4.out).trans rfl
    have c2 : w4.cell? ⟨g2, 2, none⟩ = some (.int .i64 del) := (cell_of_block hg4.out).trans rfl
    have c3 : w4.cell? ⟨g2, 3, none⟩ = some (.int .i64 ah) := (cell_of_block hg4.out).trans rfl
    go_wp2_with fail
    go_ret
    exact hend.out
  have d4 : decide (8 < del) = false := decide_eq_false k4
  by_cases k5 : ah < 1
  · have d5 : decide (ah < 1) = true := decide_eq_true k5
    have kn := Lib.hid (bad.out (by omega))
    go_wp2_with fail
    refine kn.out.mono ?_
    rintro e w4 ⟨rfl, hB5⟩
    have hg4 : Hid (w4.heap[g2]? = some (.cells #[.int .u32 seed, .int .i64 loc, .int .i64 del, .int .i64 ah] 24 (0, 0))) := hide ((hB5.block g2 (Array.getElem?_eq_some_iff.1 hg3.out).1).trans hg3.out)
    have hend : Hid (LawEnd w (.returned (.bool true)) w4) := hide ⟨rfl, hB4.out.trans (hB5.mono hB4.out.size)⟩
    clear hB5 c0 c1 c2 c3
    have c1 : w4.cell? ⟨g2, 1, none⟩ = some (.int .i64 loc) := (cell_of_block hg4.out).trans rfl
    have c2 : w4.cell? ⟨g2, 2, none⟩ = some (.int .i64 del) := (cell_of_block hg4.out).trans rfl
    have c3 : w4.cell? ⟨g2, 3, none⟩ = some (.int .i64 ah) := (cell_of_block hg4.out).trans rfl
    go_wp2_with fail
    go_ret
    exact hend.out
  have d5 : decide (ah < 1) = false := decide_eq_false k5
  by_cases k6 : 16 < ah
  · have d6 : decide (16 < ah) = true := decide_eq_true k6
    have kn := Lib.hid (bad.out (by omega))
    go_wp2_with fail
    refine kn.out.mono ?_
    rintro e w4 ⟨rfl, hB5⟩
    have hg4 : Hid (w4.heap[g2]? = some (.cells #[.int .u32 seed, .int .i64 loc, .int .i64 del, .int .i64 ah] 24 (0, 0))) := hide ((hB5.block g2 (Array.getElem?_eq_some_iff.1 hg3.out).1).trans hg3.out)
    have hend : Hid (LawEnd w (.returned (.bool true)) w4) := hide ⟨rfl, hB4.out.trans (hB5.mono hB4.out.size)⟩
    clear hB5 c0 c1 c2 c3
    have c1 : w4.cell? ⟨g2, 1, none⟩ = some (.int .i64 loc) := (cell_of_block hg4.out).trans rfl
    have c2 : w4.cell? ⟨g2, 2, none⟩ = some (.int .i64 del) := (cell_of_block hg4.out).trans rfl
    have c3 : w4.cell? ⟨g2, 3, none⟩ = some (.int .i64 ah) := (cell_of_block hg4.out).trans rfl
    go_wp2_with fail
    go_ret
    exact hend.out
  have d6 : decide (16 < ah) = false := decide_eq_false k6
  obtain ⟨l, rfl⟩ : ∃ l : Nat, loc = (l : Nat) := ⟨loc.toNat, by omega⟩
  obtain ⟨d, rfl⟩ : ∃ d : Nat, del = (d : Nat) := ⟨del.toNat, by omega⟩
  obtain ⟨a, rfl⟩ : ∃ a : Nat, ah = (a : Nat) := ⟨ah.toNat, by omega⟩
  have hl2 : l < 2 := by omega
  have hd8 : d ≤ 8 := by omega
  have ha16 : 1 ≤ a ∧ a ≤ 16 := by omega
  have kn := Lib.hid (e_new seed l d a w3 hsdh.out hl2 hd8 ha16)
  have hl2h := Lib.hid hl2
  have hd8h := Lib.hid hd8
  have ha16h := Lib.hid ha16
  clear bad k1 k2 k3 k4 k5 k6
  go_wp2_with fail
  refine kn.out.mono ?_
  rintro e w4 ⟨c, F0, F1, FS, hh, hcl1, hcd, hca, rfl, hA, hB5⟩
  have hg4 : Hid (w4.heap[g2]? = some (.cells #[.int .u32 seed, .int .i64 (l : Nat), .int .i64 (d : Nat), .int .i64 (a : Nat)] 24 (0, 0))) := hide ((hB5.block g2 (Array.getElem?_eq_some_iff.1 hg3.out).1).trans hg3.out)
  have hA4 : Hid (EnAt w4 w.heap.size c F0 F1 FS (newE d (newF seed) hh)) := hide (hA.base hB4.out.size)
  have hB6 : Hid (Below w.heap.size w w4) := hide (hB4.out.trans (hB5.mono hB4.out.size))
  have hrest : Hid (Rest c (newF seed) (newE d (newF seed) hh) 0) := hide (Rest.new (by omega) hcd hd8 hca ha16 (GOk.new hsdh.out) (newF_frame seed) hh)
  have hcl1h := Lib.hid hcl1
  have hcdh := Lib.hid hcd
  have hcah := Lib.hid hca
  clear kn hcl1 hcd hca hA hB5 hg3 hB4 c0 c1 c2 c3 hl2 hd8 ha16
  have c1 : w4.cell? ⟨g2, 1, none⟩ = some (.int .i64 (l : Nat)) := (cell_of_block hg4.out).trans rfl
  have c2 : w4.cell? ⟨g2, 2, none⟩ = some (.int .i64 (d : Nat)) := (cell_of_block hg4.out).trans rfl
  have c3 : w4.cell? ⟨g2, 3, none⟩ = some (.int .i64 (a : Nat)) := (cell_of_block hg4.out).trans rfl
  go_upto_region 8 with (fail)
  clear c1 c2 c3 d1 d2 d3 d4 d5 d6
  obtain ⟨x, hx⟩ : ∃ x, c.x = x := ⟨_, rfl⟩
  have hxh := Lib.hid hx
  rw [hx]
  clear hx
  have hBa : Below w4.heap.size w4 (w4.alloc (.cells #[.slice none 0 0, .slice none 0 0] 32)) := (Below.refl _ _).alloc (Nat.le_refl _) _
  have h70 : Hid ((w4.alloc (.cells #[.slice none 0 0, .slice none 0 0] 32)).heap[w4.heap.size]? = some (.cells #[.slice none 0 0, .slice none 0 0] 32 (0, 0))) := hide (last0 _ _ _ rfl)
  have hL0 : Hid (LwAt w (w4.alloc (.cells #[.slice none 0 0, .slice none 0 0] 32)) c (newE d (newF seed) hh) g2 w4.heap.size #[.int .u32 seed, .int .i64 (l : Nat), .int .i64 (d : Nat), .int .i64 (a : Nat)] (.slice none 0 0) (.slice none 0 0) [] []) := hide
    ⟨⟨F0, F1, FS, hA4.out.below hBa, (fun b hb => by cases hb), (fun b hb => by cases hb)⟩, (hBa.block g2 (Array.getElem?_eq_some_iff.1 hg4.out).1).trans hg4.out, h70.out, VAt.nil _ _ _ _, VAt.nil _ _ _ _, (fun b hb => by cases hb), hB6.out.trans (hBa.mono hB6.out.size), by rw [hg2h.out]; exact Nat.le_refl _, hB6.out.size⟩
  clear hA4 hg4 hB6 hBa h70
  go_upto_region 9 with (fail)
  generalize World.alloc w4 _ = w5 at *
  obtain ⟨g7, hg7⟩ : ∃ g7, w4.heap.size = g7 := ⟨_, rfl⟩
  rw [hg7] at hL0 ⊢
  clear hg7
  generalize hh = hh at *
  go_upto_region 10 with (fail)
  go_loopw [8] (fun v8 wr => (v8 = .int .i64 0 ∧ Hid (LwAt w wr c (newE d (newF seed) hh) g2 g7 #[.int .u32 seed, .int .i64 (l : Nat), .int .i64 (d : Nat), .int .i64 (a : Nat)] (.slice none 0 0) (.slice none 0 0) [] [])) ∨ (v8 = .int .i64 1 ∧ ∃ s0, Hid (LwAt w wr c (newE d (newF seed) hh) g2 g7 #[.int .u32 seed, .int .i64 (l : Nat), .int .i64 (d : Nat), .int .i64 (a : Nat)] s0 (.slice none 0 0) (List.replicate d 0) [])) ∨ (v8 = .int .i64 2 ∧ ∃ s0 s1, Hid (LwAt w wr c (newE d (newF seed) hh) g2 g7 #[.int .u32 seed, .int .i64 (l : Nat), .int .i64 (d : Nat), .int .i64 (a : Nat)] s0 s1 (List.replicate d 0) (List.replicate d 0)))) (fun v8 _ => 2 - (intOf v8).toNat)
  case atStart => exact .inl ⟨rfl, hL0⟩
  case round =>
    clear hL0
    rcases hrel with ⟨rfl, hL⟩ | ⟨rfl, s0, hL⟩ | ⟨rfl, s0, s1, hL⟩
    · have c2 : wr.cell? ⟨g2, 2, none⟩ = some (.int .i64 (d : Nat)) := (cell_of_block hL.out.h2).trans rfl
      have c7 : wr.cell? ⟨g7, 0, none⟩ = some (.slice none 0 0) := (cell_of_block hL.out.h7).trans rfl
      have f7 := frozen_of_row _ g7 0 _ _ hL.out.h7
      have hd8 := hd8h.out
      have hmk := mk_in d (by omega)
      have hBm : Below wr.heap.size wr (wr.alloc (.cells (madeCells #[.int .u16 0] d) 34)) := (Below.refl _ _).alloc (Nat.le_refl _) _
      obtain ⟨q7, q2, hL9⟩ := hL.out.row0 (only_of_below hBm _) (made_row wr w.heap.size d hL.out.lo.size (by omega)) (fun b hb => .inr (Nat.le_of_eq (Option.some.inj hb)))
      have hL9h := Lib.hid hL9
      have c79 : (wr.alloc (.cells (madeCells #[.int .u16 0] d) 34)).cell? ⟨g7, 0, none⟩ = some (.slice none 0 0) := (cell_of_block q7).trans rfl
      have f79 := frozen_of_row _ g7 0 _ _ q7
      clear hL9 q7 q2 hBm hL c7 f7
      go_wp2_with fail
      refine ⟨?_, ?_⟩
      rotate_left
      · simp [intOf]
      first
        | exact .inr (.inl ⟨rfl, _, hL9h⟩)
        | (repeat (apply Exists.intro)
           exact ⟨.inr (.inl ⟨rfl, _, hL9h⟩), rfl⟩)
    · have c2 : wr.cell? ⟨g2, 2, none⟩ = some (.int .i64 (d : Nat)) := (cell_of_block hL.out.h2).trans rfl
      have c7 : wr.cell? ⟨g7, 1, none⟩ = some (.slice none 0 0) := (cell_of_block hL.out.h7).trans rfl
      have f7 := frozen_of_row _ g7 1 _ _ hL.out.h7
      have hd8 := hd8h.out
      have hmk := mk_in d (by omega)
      have hBm : Below wr.heap.size wr (wr.alloc (.cells (madeCells #[.int .u16 0] d) 34)) := (Below.refl _ _).alloc (Nat.le_refl _) _
      obtain ⟨q7, q2, hL9⟩ := hL.out.row1 (only_of_below hBm _) (made_row wr w.heap.size d hL.out.lo.size (by omega)) (fun b hb => .inr (Nat.le_of_eq (Option.some.inj hb)))
      have hL9h := Lib.hid hL9
      have c79 : (wr.alloc (.cells (madeCells #[.int .u16 0] d) 34)).cell? ⟨g7, 1, none⟩ = some (.slice none 0 0) := (cell_of_block q7).trans rfl
      have f79 := frozen_of_row _ g7 1 _ _ q7
      clear hL9 q7 q2 hBm hL c7 f7
      go_wp2_with fail
      refine ⟨?_, ?_⟩
      rotate_left
      · simp [intOf]
      first
        | exact .inr (.inr ⟨rfl, _, _, hL9h⟩)
        | (repeat (apply Exists.intro)
           exact ⟨.inr (.inr ⟨rfl, _, _, hL9h⟩), rfl⟩)
    · have hLs : Hid (LwAt w wr c (newE d (newF seed) hh) g2 g7 #[.int .u32 seed, .int .i64 (l : Nat), .int .i64 (d : Nat), .int .i64 (a : Nat)] s0 s1 (newE d (newF seed) hh).Q0.I (newE d (newF seed) hh).Q1.I) := hL
      have hbd0 : Hid ((0 : Nat) ≤ 0 ∧ ((newE d (newF seed) hh).qr c).I.length ≤ d + 0) := hide ⟨Nat.le_refl _, by
        have hq : (newE d (newF seed) hh).qr c = newP d := by unfold EnS.qr; split <;> rfl
        rw [hq]; show (List.replicate d (0 : Int)).length ≤ _; rw [List.length_replicate]; omega⟩
      clear hL
      generalize newE d (newF seed) hh = E0 at *
      go_upto_region 14 with (fail)
      go_loopw [9] (fun v9 wr => ∃ (i : Nat) (E : EnS) (f : Nat) (s0 s1 : Value), i ≤ 150 ∧ i ≤ len1 ∧ v9 = .int .i64 (i : Nat) ∧ Hid (LwAt w wr c E g2 g7 #[.int .u32 seed, .int .i64 (l : Nat), .int .i64 (d : Nat), .int .i64 (a : Nat)] s0 s1 E.Q0.I E.Q1.I) ∧ Hid (Rest c (newF seed) E f) ∧ Hid (f ≤ i ∧ (E.qr c).I.length ≤ d + i)) (fun v9 _ => 150 - (intOf v9).toNat)
      case atStart => exact ⟨0, E0, 0, s0, s1, by omega, by omega, rfl, hLs, hrest, hbd0⟩
      case round =>
        clear hLs hrest hbd0
        obtain ⟨i, E, f, s0, s1, hi150, hilen, rfl, hL, hR, hbd⟩ := hrel
        by_cases hgo : i < len1 ∧ i < 150
        · obtain ⟨hg1, hg2⟩ := hgo
          have i1 : (i : Int) < (len1 : Int) := by omega
          have i2 : (i : Int) < 150 := by omega
          obtain ⟨b, off, ha1, cR0, cX0⟩ := hcl.out i hg1
          subst ha1
          have hlb : b < w.heap.size := cell_block_lt cR0
          have cR : wr.cell? ⟨b, off + i * 2, none⟩ = some (.bool (rm i)) := (hL.out.lo.cell (p := ⟨b, off + i * 2, none⟩) hlb).trans cR0
          have cX : wr.cell? ⟨b, off + i * 2 + 1, none⟩ = some (.int .u16 (xi i)) := (hL.out.lo.cell (p := ⟨b, off + i * 2 + 1, none⟩) hlb).trans cX0
          have hcXh : Hid (∀ z, Below w.heap.size w z → z.cell? ⟨b, off + i * 2 + 1, none⟩ = some (.int .u16 (xi i))) := hide (fun z hz => (hz.cell (p := ⟨b, off + i * 2 + 1, none⟩) hlb).trans cX0)
          clear cR0 cX0
          generalize xi i = xv at *
          generalize rm i = rv at *
          go_upto_if 87 with (fail)
          clear cR
          go_cut [10, 11] from 73 to 152 (fun v10 v11 wx => ∃ (E : EnS) (f : Nat) (s0 s1 : Value), Hid (LwAt w wx c E g2 g7 #[.int .u32 seed, .int .i64 (l : Nat), .int .i64 (d : Nat), .int .i64 (a : Nat)] s0 s1 E.Q0.I E.Q1.I) ∧ Hid (Rest c (newF seed) E f) ∧ Hid (f ≤ i + 1 ∧ (E.qr c).I.length ≤ d + (i + 1)))
          case first =>
            have hRn := Lib.hid hR.out.num
            have hlen0 : Hid (E.Q0.I.length ≤ 100000) := hide (by have := hRn.out.i0; omega)
            have hlen1 : Hid (E.Q1.I.length ≤ 100000) := hide (by have := hRn.out.i1; omega)
            cases rv with
            | true =>
              have kad : Hid (Calls Try.prog 7 #[.pointer (some ⟨x, 0, none⟩), .int .u16 xv] wr (fun e w' => (f + 128 ≤ (E.qr c).I.length ∧ e = .returned (.tuple #[.int .i64 0, .int .i64 2]) ∧ LwAt w w' c E g2 g7 #[.int .u32 seed, .int .i64 (l : Nat), .int .i64 (d : Nat), .int .i64 (a : Nat)] s0 s1 E.Q0.I E.Q1.I) ∨ (¬ f + 128 ≤ (E.qr c).I.length ∧ e = .returned (.tuple #[.int .i64 ((E.qr c).I.length : Nat), .int .i64 0]) ∧ LwAt w w' c (E.setR c ((E.qr c).add xv)) g2 g7 #[.int .u32 seed, .int .i64 (l : Nat), .int .i64 (d : Nat), .int .i64 (a : Nat)] s0 s1 E.Q0.I E.Q1.I))) := hide (by
                obtain ⟨F0, F1, FS, hA, hto⟩ := hL.out.hand
                have hok := hR.out.addOk
                rw [← hxh.out]
                refine (e_addRemote hA hRn.out.sm xv hok.1 hok.2.1 hok.2.2).mono ?_
                intro e w' hP
                unfold AddEnd at hP
                by_cases hl : f + 128 ≤ (E.qr c).I.length
                · rw [if_pos hl] at hP; exact .inl ⟨hl, hP.1, hto _ _ hP.2⟩
                · rw [if_neg hl] at hP; exact .inr ⟨hl, hP.1, hto _ _ hP.2⟩)
              have hR5 : Hid (Rest c (newF seed) (E.setR c ((E.qr c).add xv)) f) := hide (hR.out.add xv (by have := hbd.out.2; have := hd8h.out; omega))
              go_wp2_with fail
              refine kad.out.mono ?_
              rintro e w5 (⟨hl, rfl, hL5⟩ | ⟨hl, rfl, hL5⟩)
              · have hL5h := Lib.hid hL5
                clear hL5 hL kad
                go_wp2_with fail
                go_meet
                exact ⟨E, f, s0, s1, hL5h, hR, hide ⟨by have := hbd.out.1; omega, by have := hbd.out.2; omega⟩⟩
              · have hL5h := Lib.hid hL5
                clear hL5 hL kad hl
                have hL := hL5h
                clear hL5h
                rcases (show Hid (l = 0) ∨ Hid (l = 1) from (show l = 0 ∨ l = 1 by have := hl2h.out; omega).imp hide hide) with hl0 | hl0
                · have hle : Hid (((l : Nat) : Int) = 0) := hide (by have := hl0.out; omega)
                  go_upto_region 19 with (fail)
                  have hLd : Hid (LwAt w w5.drew c (E.setR c ((E.qr c).add xv)) g2 g7 #[.int .u32 seed, .int .i64 (l : Nat), .int .i64 (d : Nat), .int .i64 (a : Nat)] s0 s1 E.Q0.I E.Q1.I) := hide (hL.out.drewN 1)
                  have hc1 : Hid (∀ z : World, z.heap[g2]? = some (.cells #[.int .u32 seed, .int .i64 (l : Nat), .int .i64 (d : Nat), .int .i64 (a : Nat)] 24 (0, 0)) → z.cell? ⟨g2, 1, none⟩ = some (.int .i64 0)) := hide (fun z hz => by rw [cell_of_block hz]; show some (Value.int .i64 (l : Nat)) = _; rw [hle.out])
                  have hw0 : IntKind.i64.wrap 0 = 0 := IntWalk.i64_in _ (by omega)
                  have hw1 : IntKind.i64.wrap 1 = 1 := IntWalk.i64_in _ (by omega)
                  have hHeld : (fun y : World => y.cell? ⟨g2, 1, none⟩ = some (.int .i64 0) ∧ y.cell? ⟨b, off + i * 2 + 1, none⟩ = some (.int .u16 xv)) w5.drew := ⟨hc1.out _ hLd.out.h2, hcXh.out _ hLd.out.lo⟩
                  refine h_begin 17 (fun y : World => y.cell? ⟨g2, 1, none⟩ = some (.int .i64 0) ∧ y.cell? ⟨b, off + i * 2 + 1, none⟩ = some (.int .u16 xv)) rfl (by kernel_rfl) hHeld ?_
                  clear hL
                  generalize w5.drew = wd at *
                  first
                    | (refine h_run (i := 0) (v := ?_) hHeld rfl (by kernel_rfl) (by kernel_rfl) (by kernel_rfl) ?_ ?_ ?_
                       rotate_left
                       · rfl
                       · (intro x hSx; (try dsimp only at hSx); go_simp <;> with_reducible rfl)
                       simp only [Act.put, List.setIfInBounds_toArray, List.set_cons_zero, List.set_cons_succ])
                    | (refine h_skip (i := 0) hHeld rfl (by kernel_rfl) (by kernel_rfl) (by kernel_rfl) ?_ ?_
                       · rfl
                       simp only [Act.put, List.setIfInBounds_toArray, List.set_cons_zero, List.set_cons_succ])
                  first
                    | (refine h_run (i := 1) (v := ?_) hHeld rfl (by kernel_rfl) (by kernel_rfl) (by kernel_rfl) ?_ ?_ ?_
                       rotate_left
                       · rfl
                       · (intro x hSx; (try dsimp only at hSx); go_simp <;> with_reducible rfl)
                       simp only [Act.put, List.setIfInBounds_toArray, List.set_cons_zero, List.set_cons_succ])
                    | (refine h_skip (i := 1) hHeld rfl (by kernel_rfl) (by kernel_rfl) (by kernel_rfl) ?_ ?_
                       · rfl
                       simp only [Act.put, List.setIfInBounds_toArray, List.set_cons_zero, List.set_cons_succ])
                  first
                    | (refine h_run (i := 2) (v := ?_) hHeld rfl (by kernel_rfl) (by kernel_rfl) (by kernel_rfl) ?_ ?_ ?_
                       rotate_left
                       · rfl
                       · (intro x hSx; (try dsimp only at hSx); go_simp <;> with_reducible rfl)
                       simp only [Act.put, List.setIfInBounds_toArray, List.set_cons_zero, List.set_cons_succ])
                    | (refine h_skip (i := 2) hHeld rfl (by kernel_rfl) (by kernel_rfl) (by kernel_rfl) ?_ ?_
                       · rfl
                       simp only [Act.put, List.setIfInBounds_toArray, List.set_cons_zero, List.set_cons_succ])
                  first
                    | (refine h_run (i := 3) (v := ?_) hHeld rfl (by kernel_rfl) (by kernel_rfl) (by kernel_rfl) ?_ ?_ ?_
                       rotate_left
                       · rfl
                       · (intro x hSx; (try dsimp only at hSx); go_simp <;> with_reducible rfl)
                       simp only [Act.put, List.setIfInBounds_toArray, List.set_cons_zero, List.set_cons_succ])
                    | (refine h_skip (i := 3) hHeld rfl (by kernel_rfl) (by kernel_rfl) (by kernel_rfl) ?_ ?_
                       · rfl
                       simp only [Act.put, List.setIfInBounds_toArray, List.set_cons_zero, List.set_cons_succ])
                  first
                    | (refine h_run (i := 4) (v := ?_) hHeld rfl (by kernel_rfl) (by kernel_rfl) (by kernel_rfl) ?_ ?_ ?_
                       rotate_left
                       · rfl
                       · (intro x hSx; (try dsimp only at hSx); go_simp <;> with_reducible rfl)
                       simp only [Act.put, List.setIfInBounds_toArray, List.set_cons_zero, List.set_cons_succ])
                    | (refine h_skip (i := 4) hHeld rfl (by kernel_rfl) (by kernel_rfl) (by kernel_rfl) ?_ ?_
                       · rfl
                       simp only [Act.put, List.setIfInBounds_toArray, List.set_cons_zero, List.set_cons_succ])
                  first
                    | (refine h_run (i := 5) (v := ?_) hHeld rfl (by kernel_rfl) (by kernel_rfl) (by kernel_rfl) ?_ ?_ ?_
                       rotate_left
                       · rfl
                       · (intro x hSx; (try dsimp only at hSx); go_simp <;> with_reducible rfl)
                       simp only [Act.put, List.setIfInBounds_toArray, List.set_cons_zero, List.set_cons_succ])
                    | (refine h_skip (i := 5) hHeld rfl (by kernel_rfl) (by kernel_rfl) (by kernel_rfl) ?_ ?_
                       · rfl
                       simp only [Act.put, List.setIfInBounds_toArray, List.set_cons_zero, List.set_cons_succ])
                  first
                    | (refine h_run (i := 6) (v := ?_) hHeld rfl (by kernel_rfl) (by kernel_rfl) (by kernel_rfl) ?_ ?_ ?_
                       rotate_left
                       · rfl
                       · (intro x hSx; (try dsimp only at hSx); go_simp <;> with_reducible rfl)
                       simp only [Act.put, List.setIfInBounds_toArray, List.set_cons_zero, List.set_cons_succ])
                    | (refine h_skip (i := 6) hHeld rfl (by kernel_rfl) (by kernel_rfl) (by kernel_rfl) ?_ ?_
                       · rfl
                       simp only [Act.put, List.setIfInBounds_toArray, List.set_cons_zero, List.set_cons_succ])
                  first
                    | (refine h_run (i := 8) (v := ?_) hHeld rfl (by kernel_rfl) (by kernel_rfl) (by kernel_rfl) ?_ ?_ ?_
                       rotate_left
                       · rfl
                       · (intro x hSx; (try dsimp only at hSx); go_simp <;> with_reducible rfl)
                       simp only [Act.put, List.setIfInBounds_toArray, List.set_cons_zero, List.set_cons_succ])
                    | (refine h_skip (i := 8) hHeld rfl (by kernel_rfl) (by kernel_rfl) (by kernel_rfl) ?_ ?_
                       · rfl
                       simp only [Act.put, List.setIfInBounds_toArray, List.set_cons_zero, List.set_cons_succ])
                  first
                    | (refine h_run (i := 9) (v := ?_) hHeld rfl (by kernel_rfl) (by kernel_rfl) (by kernel_rfl) ?_ ?_ ?_
                       rotate_left
                       · rfl
                       · (intro x hSx; (try dsimp only at hSx); go_simp <;> with_reducible rfl)
                       simp only [Act.put, List.setIfInBounds_toArray, List.set_cons_zero, List.set_cons_succ])
                    | (refine h_skip (i := 9) hHeld rfl (by kernel_rfl) (by kernel_rfl) (by kernel_rfl) ?_ ?_
                       · rfl
                       simp only [Act.put, List.setIfInBounds_toArray, List.set_cons_zero, List.set_cons_succ])
                  first
                    | (refine h_run (i := 10) (v := ?_) hHeld rfl (by kernel_rfl) (by kernel_rfl) (by kernel_rfl) ?_ ?_ ?_
                       rotate_left
                       · rfl
                       · (intro x hSx; (try dsimp only at hSx); go_simp <;> with_reducible rfl)
                       simp only [Act.put, List.setIfInBounds_toArray, List.set_cons_zero, List.set_cons_succ])
                    | (refine h_skip (i := 10) hHeld rfl (by kernel_rfl) (by kernel_rfl) (by kernel_rfl) ?_ ?_
                       · rfl
                       simp only [Act.put, List.setIfInBounds_toArray, List.set_cons_zero, List.set_cons_succ])
                  first
                    | (refine h_run (i := 11) (v := ?_) hHeld rfl (by kernel_rfl) (by kernel_rfl) (by kernel_rfl) ?_ ?_ ?_
                       rotate_left
                       · rfl
                       · (intro x hSx; (try dsimp only at hSx); go_simp <;> with_reducible rfl)
                       simp only [Act.put, List.setIfInBounds_toArray, List.set_cons_zero, List.set_cons_succ])
                    | (refine h_skip (i := 11) hHeld rfl (by kernel_rfl) (by kernel_rfl) (by kernel_rfl) ?_ ?_
                       · rfl
                       simp only [Act.put, List.setIfInBounds_toArray, List.set_cons_zero, List.set_cons_succ])
                  first
                    | (refine h_run (i := 12) (v := ?_) hHeld rfl (by kernel_rfl) (by kernel_rfl) (by kernel_rfl) ?_ ?_ ?_
                       rotate_left
                       · rfl
                       · (intro x hSx; (try dsimp only at hSx); go_simp <;> with_reducible rfl)
                       simp only [Act.put, List.setIfInBounds_toArray, List.set_cons_zero, List.set_cons_succ])
                    | (refine h_skip (i := 12) hHeld rfl (by kernel_rfl) (by kernel_rfl) (by kernel_rfl) ?_ ?_
                       · rfl
                       simp only [Act.put, List.setIfInBounds_toArray, List.set_cons_zero, List.set_cons_succ])
                  obtain ⟨s6, q6, W6, hr6, hv6, hg6, hf6⟩ := i_one hLd.out.r1 hLd.out.lo.size hlen1.out xv 31
                  obtain ⟨b7, b2, hL9⟩ := hLd.out.row1 hg6 (row_more hv6) hf6
                  have hL9h := Lib.hid hL9
                  have c7 : wd.cell? ⟨g7, 1, none⟩ = some s1 := (cell_of_block hLd.out.h7).trans rfl
                  have hBm : Below wd.heap.size wd (wd.alloc (.cells #[.int .u16 xv] 34)) := (Below.refl _ _).alloc (Nat.le_refl _) _
                  have hLa := hLd.out.below hBm
                  have c7a : (wd.alloc (.cells #[.int .u16 xv] 34)).cell? ⟨g7, 1, none⟩ = some s1 := (cell_of_block hLa.h7).trans rfl
                  have hS1 : (fun y : World => y.cell? ⟨g2, 1, none⟩ = some (.int .i64 0) ∧ y.cell? ⟨b, off + i * 2 + 1, none⟩ = some (.int .u16 xv)) (wd.alloc (.cells #[.int .u16 xv] 34)) := ⟨hc1.out _ hLa.h2, hcXh.out _ hLa.lo⟩
                  have hS6 : (fun y : World => y.cell? ⟨g2, 1, none⟩ = some (.int .i64 0) ∧ y.cell? ⟨b, off + i * 2 + 1, none⟩ = some (.int .u16 xv)) W6 := ⟨hc1.out _ b2, hcXh.out _ (below_grown hLd.out.lo (Nat.le_refl _) hg6 (fun p hp => (hLd.out.r1.lt p hp).1))⟩
                  have hS9 : (fun y : World => y.cell? ⟨g2, 1, none⟩ = some (.int .i64 0) ∧ y.cell? ⟨b, off + i * 2 + 1, none⟩ = some (.int .u16 xv)) (W6.setCell ⟨g7, 1, none⟩ (.slice s6 (E.Q1.I.length + 1) q6)) := ⟨hc1.out _ hL9.h2, hcXh.out _ hL9.lo⟩
                  have c76 : W6.cell? ⟨g7, 1, none⟩ = some s1 := (cell_of_block b7).trans rfl
                  have f76 := frozen_of_row _ g7 1 _ _ b7
                  clear hL9 hLa hBm hf6 hv6 b7 b2
                  refine h_twoW (i := 7) (j := 13) (vi := s1) (vj := .slice (some ⟨wd.heap.size, 0, none⟩) 1 1) (w1 := wd.alloc (.cells #[.int .u16 xv] 34)) rfl rfl (by kernel_rfl) (by kernel_rfl) (by kernel_rfl) (fun _ => rfl) (fun _ => rfl) ?_ ?_ ?_ ?_ rfl rfl hHeld hS1 ?_
                  · go_simp <;> with_reducible rfl
                  · go_simp <;> with_reducible rfl
                  · go_simp <;> with_reducible rfl
                  · go_simp <;> with_reducible rfl
                  try simp only [Act.put, List.setIfInBounds_toArray, List.set_cons_zero, List.set_cons_succ]
                  refine h_value (i := 14) (v := .slice s6 (E.Q1.I.length + 1) q6) (w' := W6) (fun y : World => y.cell? ⟨g2, 1, none⟩ = some (.int .i64 0) ∧ y.cell? ⟨b, off + i * 2 + 1, none⟩ = some (.int .u16 xv)) (fun _ h => h) rfl (by kernel_rfl) rfl ?_ hS6 ?_
                  · exact exec_appendV (.tmp 107) (.tmp 113) _ _ rfl rfl rfl hr6
                  try simp only [Act.put, List.setIfInBounds_toArray, List.set_cons_zero, List.set_cons_succ]
                  have hHeld : (fun y : World => y.cell? ⟨g2, 1, none⟩ = some (.int .i64 0) ∧ y.cell? ⟨b, off + i * 2 + 1, none⟩ = some (.int .u16 xv)) W6 := hS6
                  first
                    | (refine h_run (i := 15) (v := ?_) hHeld rfl (by kernel_rfl) (by kernel_rfl) (by kernel_rfl) ?_ ?_ ?_
                       rotate_left
                       · rfl
                       · (intro x hSx; (try dsimp only at hSx); go_simp <;> with_reducible rfl)
                       simp only [Act.put, List.setIfInBounds_toArray, List.set_cons_zero, List.set_cons_succ])
                    | (refine h_skip (i := 15) hHeld rfl (by kernel_rfl) (by kernel_rfl) (by kernel_rfl) ?_ ?_
                       · rfl
                       simp only [Act.put, List.setIfInBounds_toArray, List.set_cons_zero, List.set_cons_succ])
                  refine h_write (i := 16) (w' := W6.setCell ⟨g7, 1, none⟩ (.slice s6 (E.Q1.I.length + 1) q6)) (fun y : World => y.cell? ⟨g2, 1, none⟩ = some (.int .i64 0) ∧ y.cell? ⟨b, off + i * 2 + 1, none⟩ = some (.int .u16 xv)) (fun _ h => h) rfl (by kernel_rfl) rfl ?_ hS9 ?_
                  · go_simp <;> with_reducible rfl
                  refine h_done (by kernel_rfl) ?_
                  try simp only [Act.put, List.setIfInBounds_toArray, List.set_cons_zero, List.set_cons_succ]
                  clear hS9 hS6 hS1 hr6 c7 c7a c76 f76 hHeld hc1 hg6 hLd
                  generalize World.setCell W6 _ _ = w9 at *
                  have hend : Hid (LwAt w w9 c (E.setR c ((E.qr c).add xv)) g2 g7 #[.int .u32 seed, .int .i64 (l : Nat), .int .i64 (d : Nat), .int .i64 (a : Nat)] s0 (.slice s6 (E.Q1.I.length + 1) q6) (E.setR c ((E.qr c).add xv)).Q0.I (E.setR c ((E.qr c).add xv)).Q1.I) := hide (by
                    have h := hL9h.out
                    have e : E.setR c ((E.qr c).add xv) = { E with Q1 := E.Q1.add xv } := by have := hl0.out; have := hcl1h.out; unfold EnS.setR EnS.qr; rw [if_pos (by omega), if_pos (by omega)]
                    rw [e] at h ⊢
                    exact h)
                  have hlen : Hid ((((E.setR c ((E.qr c).add xv))).qr c).I.length = (E.qr c).I.length + 1) := hide (by rw [setR_qr]; show ((E.qr c).I ++ [xv]).length = _; rw [List.length_append]; rfl)
                  go_wp2_with fail
                  go_meet
                  exact ⟨_, f, _, _, hend, hR5, hide ⟨by have := hbd.out.1; omega, by rw [hlen.out]; have := hbd.out.2; omega⟩⟩
                · have hle : Hid (((l : Nat) : Int) = 1) := hide (by have := hl0.out; omega)
                  go_upto_region 19 with (fail)
                  have hLd : Hid (LwAt w w5.drew c (E.setR c ((E.qr c).add xv)) g2 g7 #[.int .u32 seed, .int .i64 (l : Nat), .int .i64 (d : Nat), .int .i64 (a : Nat)] s0 s1 E.Q0.I E.Q1.I) := hide (hL.out.drewN 1)
                  have hc1 : Hid (∀ z : World, z.heap[g2]? = some (.cells #[.int .u32 seed, .int .i64 (l : Nat), .int .i64 (d : Nat), .int .i64 (a : Nat)] 24 (0, 0)) → z.cell? ⟨g2, 1, none⟩ = some (.int .i64 1)) := hide (fun z hz => by rw [cell_of_block hz]; show some (Value.int .i64 (l : Nat)) = _; rw [hle.out])
                  have hw0 : IntKind.i64.wrap 0 = 0 := IntWalk.i64_in _ (by omega)
                  have hw1 : IntKind.i64.wrap 1 = 1 := IntWalk.i64_in _ (by omega)
                  have hHeld : (fun y : World => y.cell? ⟨g2, 1, none⟩ = some (.int .i64 1) ∧ y.cell? ⟨b, off + i * 2 + 1, none⟩ = some (.int .u16 xv)) w5.drew := ⟨hc1.out _ hLd.out.h2, hcXh.out _ hLd.out.lo⟩
                  refine h_begin 17 (fun y : World => y.cell? ⟨g2, 1, none⟩ = some (.int .i64 1) ∧ y.cell? ⟨b, off + i * 2 + 1, none⟩ = some (.int .u16 xv)) rfl (by kernel_rfl) hHeld ?_
                  clear hL
                  generalize w5.drew = wd at *
                  first
                    | (refine h_run (i := 0) (v := ?_) hHeld rfl (by kernel_rfl) (by kernel_rfl) (by kernel_rfl) ?_ ?_ ?_
                       rotate_left
                       · rfl
                       · (intro x hSx; (try dsimp only at hSx); go_simp <;> with_reducible rfl)
                       simp only [Act.put, List.setIfInBounds_toArray, List.set_cons_zero, List.set_cons_succ])
                    | (refine h_skip (i := 0) hHeld rfl (by kernel_rfl) (by kernel_rfl) (by kernel_rfl) ?_ ?_
                       · rfl
                       simp only [Act.put, List.setIfInBounds_toArray, List.set_cons_zero, List.set_cons_succ])
                  first
                    | (refine h_run (i := 1) (v := ?_) hHeld rfl (by kernel_rfl) (by kernel_rfl) (by kernel_rfl) ?_ ?_ ?_
                       rotate_left
                       · rfl
                       · (intro x hSx; (try dsimp only at hSx); go_simp <;> with_reducible rfl)
                       simp only [Act.put, List.setIfInBounds_toArray, List.set_cons_zero, List.set_cons_succ])
                    | (refine h_skip (i := 1) hHeld rfl (by kernel_rfl) (by kernel_rfl) (by kernel_rfl) ?_ ?_
                       · rfl
                       simp only [Act.put, List.setIfInBounds_toArray, List.set_cons_zero, List.set_cons_succ])
                  first
                    | (refine h_run (i := 2) (v := ?_) hHeld rfl (by kernel_rfl) (by kernel_rfl) (by kernel_rfl) ?_ ?_ ?_
                       rotate_left
                       · rfl
                       · (intro x hSx; (try dsimp only at hSx); go_simp <;> with_reducible rfl)
                       simp only [Act.put, List.setIfInBounds_toArray, List.set_cons_zero, List.set_cons_succ])
                    | (refine h_skip (i := 2) hHeld rfl (by kernel_rfl) (by kernel_rfl) (by kernel_rfl) ?_ ?_
                       · rfl
                       simp only [Act.put, List.setIfInBounds_toArray, List.set_cons_zero, List.set_cons_succ])
                  first
                    | (refine h_run (i := 3) (v := ?_) hHeld rfl (by kernel_rfl) (by kernel_rfl) (by kernel_rfl) ?_ ?_ ?_
                       rotate_left
                       · rfl
                       · (intro x hSx; (try dsimp only at hSx); go_simp <;> with_reducible rfl)
                       simp only [Act.put, List.setIfInBounds_toArray, List.set_cons_zero, List.set_cons_succ])
                    | (refine h_skip (i := 3) hHeld rfl (by kernel_rfl) (by kernel_rfl) (by kernel_rfl) ?_ ?_
                       · rfl
                       simp only [Act.put, List.setIfInBounds_toArray, List.set_cons_zero, List.set_cons_succ])
                  first
                    | (refine h_run (i := 4) (v := ?_) hHeld rfl (by kernel_rfl) (by kernel_rfl) (by kernel_rfl) ?_ ?_ ?_
                       rotate_left
                       · rfl
                       · (intro x hSx; (try dsimp only at hSx); go_simp <;> with_reducible rfl)
                       simp only [Act.put, List.setIfInBounds_toArray, List.set_cons_zero, List.set_cons_succ])
                    | (refine h_skip (i := 4) hHeld rfl (by kernel_rfl) (by kernel_rfl) (by kernel_rfl) ?_ ?_
                       · rfl
                       simp only [Act.put, List.setIfInBounds_toArray, List.set_cons_zero, List.set_cons_succ])
                  first
                    | (refine h_run (i := 5) (v := ?_) hHeld rfl (by kernel_rfl) (by kernel_rfl) (by kernel_rfl) ?_ ?_ ?_
                       rotate_left
                       · rfl
                       · (intro x hSx; (try dsimp only at hSx); go_simp <;> with_reducible rfl)
                       simp only [Act.put, List.setIfInBounds_toArray, List.set_cons_zero, List.set_cons_succ])
                    | (refine h_skip (i := 5) hHeld rfl (by kernel_rfl) (by kernel_rfl) (by kernel_rfl) ?_ ?_
                       · rfl
                       simp only [Act.put, List.setIfInBounds_toArray, List.set_cons_zero, List.set_cons_succ])
                  first
                    | (refine h_run (i := 6) (v := ?_) hHeld rfl (by kernel_rfl) (by kernel_rfl) (by kernel_rfl) ?_ ?_ ?_
                       rotate_left
                       · rfl
                       · (intro x hSx; (try dsimp only at hSx); go_simp <;> with_reducible rfl)
                       simp only [Act.put, List.setIfInBounds_toArray, List.set_cons_zero, List.set_cons_succ])
                    | (refine h_skip (i := 6) hHeld rfl (by kernel_rfl) (by kernel_rfl) (by kernel_rfl) ?_ ?_
                       · rfl
                       simp only [Act.put, List.setIfInBounds_toArray, List.set_cons_zero, List.set_cons_succ])
                  first
                    | (refine h_run (i := 8) (v := ?_) hHeld rfl (by kernel_rfl) (by kernel_rfl) (by kernel_rfl) ?_ ?_ ?_
                       rotate_left
                       · rfl
                       · (intro x hSx; (try dsimp only at hSx); go_simp <;> with_reducible rfl)
                       simp only [Act.put, List.setIfInBounds_toArray, List.set_cons_zero, List.set_cons_succ])
                    | (refine h_skip (i := 8) hHeld rfl (by kernel_rfl) (by kernel_rfl) (by kernel_rfl) ?_ ?_
                       · rfl
                       simp only [Act.put, List.setIfInBounds_toArray, List.set_cons_zero, List.set_cons_succ])
                  first
                    | (refine h_run (i := 9) (v := ?_) hHeld rfl (by kernel_rfl) (by kernel_rfl) (by kernel_rfl) ?_ ?_ ?_
                       rotate_left
                       · rfl
                       · (intro x hSx; (try dsimp only at hSx); go_simp <;> with_reducible rfl)
                       simp only [Act.put, List.setIfInBounds_toArray, List.set_cons_zero, List.set_cons_succ])
                    | (refine h_skip (i := 9) hHeld rfl (by kernel_rfl) (by kernel_rfl) (by kernel_rfl) ?_ ?_
                       · rfl
                       simp only [Act.put, List.setIfInBounds_toArray, List.set_cons_zero, List.set_cons_succ])
                  first
                    | (refine h_run (i := 10) (v := ?_) hHeld rfl (by kernel_rfl) (by kernel_rfl) (by kernel_rfl) ?_ ?_ ?_
                       rotate_left
                       · rfl
                       · (intro x hSx; (try dsimp only at hSx); go_simp <;> with_reducible rfl)
                       simp only [Act.put, List.setIfInBounds_toArray, List.set_cons_zero, List.set_cons_succ])
                    | (refine h_skip (i := 10) hHeld rfl (by kernel_rfl) (by kernel_rfl) (by kernel_rfl) ?_ ?_
                       · rfl
                       simp only [Act.put, List.setIfInBounds_toArray, List.set_cons_zero, List.set_cons_succ])
                  first
                    | (refine h_run (i := 11) (v := ?_) hHeld rfl (by kernel_rfl) (by kernel_rfl) (by kernel_rfl) ?_ ?_ ?_
                       rotate_left
                       · rfl
                       · (intro x hSx; (try dsimp only at hSx); go_simp <;> with_reducible rfl)
                       simp only [Act.put, List.setIfInBounds_toArray, List.set_cons_zero, List.set_cons_succ])
                    | (refine h_skip (i := 11) hHeld rfl (by kernel_rfl) (by kernel_rfl) (by kernel_rfl) ?_ ?_
                       · rfl
                       simp only [Act.put, List.setIfInBounds_toArray, List.set_cons_zero, List.set_cons_succ])
                  first
                    | (refine h_run (i := 12) (v := ?_) hHeld rfl (by kernel_rfl) (by kernel_rfl) (by kernel_rfl) ?_ ?_ ?_
                       rotate_left
                       · rfl
                       · (intro x hSx; (try dsimp only at hSx); go_simp <;> with_reducible rfl)
                       simp only [Act.put, List.setIfInBounds_toArray, List.set_cons_zero, List.set_cons_succ])
                    | (refine h_skip (i := 12) hHeld rfl (by kernel_rfl) (by kernel_rfl) (by kernel_rfl) ?_ ?_
                       · rfl
                       simp only [Act.put, List.setIfInBounds_toArray, List.set_cons_zero, List.set_cons_succ])
                  obtain ⟨s6, q6, W6, hr6, hv6, hg6, hf6⟩ := i_one hLd.out.r0 hLd.out.lo.size hlen0.out xv 31
                  obtain ⟨b7, b2, hL9⟩ := hLd.out.row0 hg6 (row_more hv6) hf6
                  have hL9h := Lib.hid hL9
                  have c7 : wd.cell? ⟨g7, 0, none⟩ = some s0 := (cell_of_block hLd.out.h7).trans rfl
                  have hBm : Below wd.heap.size wd (wd.alloc (.cells #[.int .u16 xv] 34)) := (Below.refl _ _).alloc (Nat.le_refl _) _
                  have hLa := hLd.out.below hBm
                  have c7a : (wd.alloc (.cells #[.int .u16 xv] 34)).cell? ⟨g7, 0, none⟩ = some s0 := (cell_of_block hLa.h7).trans rfl
                  have hS1 : (fun y : World => y.cell? ⟨g2, 1, none⟩ = some (.int .i64 1) ∧ y.cell? ⟨b, off + i * 2 + 1, none⟩ = some (.int .u16 xv)) (wd.alloc (.cells #[.int .u16 xv] 34)) := ⟨hc1.out _ hLa.h2, hcXh.out _ hLa.lo⟩
                  have hS6 : (fun y : World => y.cell? ⟨g2, 1, none⟩ = some (.int .i64 1) ∧ y.cell? ⟨b, off + i * 2 + 1, none⟩ = some (.int .u16 xv)) W6 := ⟨hc1.out _ b2, hcXh.out _ (below_grown hLd.out.lo (Nat.le_refl _) hg6 (fun p hp => (hLd.out.r0.lt p hp).1))⟩
                  have hS9 : (fun y : World => y.cell? ⟨g2, 1, none⟩ = some (.int .i64 1) ∧ y.cell? ⟨b, off + i * 2 + 1, none⟩ = some (.int .u16 xv)) (W6.setCell ⟨g7, 0, none⟩ (.slice s6 (E.Q0.I.length + 1) q6)) := ⟨hc1.out _ hL9.h2, hcXh.out _ hL9.lo⟩
                  have c76 : W6.cell? ⟨g7, 0, none⟩ = some s0 := (cell_of_block b7).trans rfl
                  have f76 := frozen_of_row _ g7 0 _ _ b7
                  clear hL9 hLa hBm hf6 hv6 b7 b2
                  refine h_twoW (i := 7) (j := 13) (vi := s0) (vj := .slice (some ⟨wd.heap.size, 0, none⟩) 1 1) (w1 := wd.alloc (.cells #[.int .u16 xv] 34)) rfl rfl (by kernel_rfl) (by kernel_rfl) (by kernel_rfl) (fun _ => rfl) (fun _ => rfl) ?_ ?_ ?_ ?_ rfl rfl hHeld hS1 ?_
                  · go_simp <;> with_reducible rfl
                  · go_simp <;> with_reducible rfl
                  · go_simp <;> with_reducible rfl
                  · go_simp <;> with_reducible rfl
                  try simp only [Act.put, List.setIfInBounds_toArray, List.set_cons_zero, List.set_cons_succ]
                  refine h_value (i := 14) (v := .slice s6 (E.Q0.I.length + 1) q6) (w' := W6) (fun y : World => y.cell? ⟨g2, 1, none⟩ = some (.int .i64 1) ∧ y.cell? ⟨b, off + i * 2 + 1, none⟩ = some (.int .u16 xv)) (fun _ h => h) rfl (by kernel_rfl) rfl ?_ hS6 ?_
                  · exact exec_appendV (.tmp 107) (.tmp 113) _ _ rfl rfl rfl hr6
                  try simp only [Act.put, List.setIfInBounds_toArray, List.set_cons_zero, List.set_cons_succ]
                  have hHeld : (fun y : World => y.cell? ⟨g2, 1, none⟩ = some (.int .i64 1) ∧ y.cell? ⟨b, off + i * 2 + 1, none⟩ = some (.int .u16 xv)) W6 := hS6
                  first
                    | (refine h_run (i := 15) (v := ?_) hHeld rfl (by kernel_rfl) (by kernel_rfl) (by kernel_rfl) ?_ ?_ ?_
                       rotate_left
                       · rfl
                       · (intro x hSx; (try dsimp only at hSx); go_simp <;> with_reducible rfl)
                       simp only [Act.put, List.setIfInBounds_toArray, List.set_cons_zero, List.set_cons_succ])
                    | (refine h_skip (i := 15) hHeld rfl (by kernel_rfl) (by kernel_rfl) (by kernel_rfl) ?_ ?_
                       · rfl
                       simp only [Act.put, List.setIfInBounds_toArray, List.set_cons_zero, List.set_cons_succ])
                  refine h_write (i := 16) (w' := W6.setCell ⟨g7, 0, none⟩ (.slice s6 (E.Q0.I.length + 1) q6)) (fun y : World => y.cell? ⟨g2, 1, none⟩ = some (.int .i64 1) ∧ y.cell? ⟨b, off + i * 2 + 1, none⟩ = some (.int .u16 xv)) (fun _ h => h) rfl (by kernel_rfl) rfl ?_ hS9 ?_
                  · go_simp <;> with_reducible rfl
                  refine h_done (by kernel_rfl) ?_
                  try simp only [Act.put, List.setIfInBounds_toArray, List.set_cons_zero, List.set_cons_succ]
                  clear hS9 hS6 hS1 hr6 c7 c7a c76 f76 hHeld hc1 hg6 hLd
                  generalize World.setCell W6 _ _ = w9 at *
                  have hend : Hid (LwAt w w9 c (E.setR c ((E.qr c).add xv)) g2 g7 #[.int .u32 seed, .int .i64 (l : Nat), .int .i64 (d : Nat), .int .i64 (a : Nat)] (.slice s6 (E.Q0.I.length + 1) q6) s1 (E.setR c ((E.qr c).add xv)).Q0.I (E.setR c ((E.qr c).add xv)).Q1.I) := hide (by
                    have h := hL9h.out
                    have e : E.setR c ((E.qr c).add xv) = { E with Q0 := E.Q0.add xv } := by have := hl0.out; have := hcl1h.out; unfold EnS.setR EnS.qr; rw [if_neg (by omega), if_neg (by omega)]
                    rw [e] at h ⊢
                    exact h)
                  have hlen : Hid ((((E.setR c ((E.qr c).add xv))).qr c).I.length = (E.qr c).I.length + 1) := hide (by rw [setR_qr]; show ((E.qr c).I ++ [xv]).length = _; rw [List.length_append]; rfl)
                  go_wp2_with fail
                  go_meet
                  exact ⟨_, f, _, _, hend, hR5, hide ⟨by have := hbd.out.1; omega, by rw [hlen.out]; have := hbd.out.2; omega⟩⟩
            | false =>
              have hf150 : Hid (f < 150) := hide (by have := hbd.out.1; omega)
              have kad : Hid (Calls Try.prog 8 #[.pointer (some ⟨x, 0, none⟩), .int .u16 xv] wr (fun e w' => (e = .returned (.int .i64 250) ∧ LwAt w w' c E g2 g7 #[.int .u32 seed, .int .i64 (l : Nat), .int .i64 (d : Nat), .int .i64 (a : Nat)] s0 s1 E.Q0.I E.Q1.I) ∨ (e = .returned (.int .i64 0) ∧ ∃ E2, LwAt w w' c E2 g2 g7 #[.int .u32 seed, .int .i64 (l : Nat), .int .i64 (d : Nat), .int .i64 (a : Nat)] s0 s1 E.Q0.I E.Q1.I ∧ Rest c (newF seed) E2 (f + 1) ∧ (c.loc = 0 → E2.Q0.I = E.Q0.I ++ [xv] ∧ E2.Q1.I = E.Q1.I) ∧ (c.loc ≠ 0 → E2.Q0.I = E.Q0.I ∧ E2.Q1.I = E.Q1.I ++ [xv])))) := hide (by
                obtain ⟨F0, F1, FS, hA, hto⟩ := hL.out.hand
                rw [← hxh.out]
                refine (e_advance hA hRn.out xv).mono ?_
                rintro e w' (⟨hm, he, hE⟩ | ⟨hm, he, E1, h2, hrel, hE⟩)
                · exact .inl ⟨he, hto _ _ hE⟩
                · obtain ⟨r1, r2, r3, r4⟩ := hR.out.fix hrel
                  have hcf : E1.conf = E.conf := by unfold EnS.conf; rw [r3, r4]
                  obtain ⟨a1, a2⟩ := adv_I E1 c f xv h2 ((E1.adv c f xv h2).below (f + 1))
                  exact .inr ⟨he, _, hto _ _ hE, r1.adv r2 (by omega) hf150.out xv h2, fun e => by rw [← r3, ← r4]; exact a1 e, fun e => by rw [← r3, ← r4]; exact a2 e⟩)
              go_wp2_with fail
              refine kad.out.mono ?_
              rintro e w5 (⟨rfl, hL5⟩ | ⟨rfl, E2, hL5, hR2, hq0, hq1⟩)
              · have hL5h := Lib.hid hL5
                clear hL5 hL kad
                go_wp2_with fail
                go_meet
                exact ⟨E, f, s0, s1, hL5h, hR, hide ⟨by have := hbd.out.1; omega, by have := hbd.out.2; omega⟩⟩
              · have hL5h := Lib.hid hL5
                have hR5 := Lib.hid hR2
                have hq0h := Lib.hid hq0
                have hq1h := Lib.hid hq1
                clear hL5 hL kad hR2 hq0 hq1
                have hL := hL5h
                clear hL5h
                rcases (show Hid (l = 0) ∨ Hid (l = 1) from (show l = 0 ∨ l = 1 by have := hl2h.out; omega).imp hide hide) with hl0 | hl0
                · have hle : Hid (((l : Nat) : Int) = 0) := hide (by have := hl0.out; omega)
                  go_upto_region 21 with (fail)
                  have hLd : Hid (LwAt w w5.drew c E2 g2 g7 #[.int .u32 seed, .int .i64 (l : Nat), .int .i64 (d : Nat), .int .i64 (a : Nat)] s0 s1 E.Q0.I E.Q1.I) := hide (hL.out.drewN 1)
                  have hc1 : Hid (∀ z : World, z.heap[g2]? = some (.cells #[.int .u32 seed, .int .i64 (l : Nat), .int .i64 (d : Nat), .int .i64 (a : Nat)] 24 (0, 0)) → z.cell? ⟨g2, 1, none⟩ = some (.int .i64 0)) := hide (fun z hz => by rw [cell_of_block hz]; show some (Value.int .i64 (l : Nat)) = _; rw [hle.out])
                  have hw0 : IntKind.i64.wrap 0 = 0 := IntWalk.i64_in _ (by omega)
                  have hw1 : IntKind.i64.wrap 1 = 1 := IntWalk.i64_in _ (by omega)
                  have hHeld : (fun y : World => y.cell? ⟨g2, 1, none⟩ = some (.int .i64 0) ∧ y.cell? ⟨b, off + i * 2 + 1, none⟩ = some (.int .u16 xv)) w5.drew := ⟨hc1.out _ hLd.out.h2, hcXh.out _ hLd.out.lo⟩
                  refine h_begin 15 (fun y : World => y.cell? ⟨g2, 1, none⟩ = some (.int .i64 0) ∧ y.cell? ⟨b, off + i * 2 + 1, none⟩ = some (.int .u16 xv)) rfl (by kernel_rfl) hHeld ?_
                  clear hL
                  generalize w5.drew = wd at *
                  first
                    | (refine h_run (i := 0) (v := ?_) hHeld rfl (by kernel_rfl) (by kernel_rfl) (by kernel_rfl) ?_ ?_ ?_
                       rotate_left
                       · rfl
                       · (intro x hSx; (try dsimp only at hSx); go_simp <;> with_reducible rfl)
                       simp only [Act.put, List.setIfInBounds_toArray, List.set_cons_zero, List.set_cons_succ])
                    | (refine h_skip (i := 0) hHeld rfl (by kernel_rfl) (by kernel_rfl) (by kernel_rfl) ?_ ?_
                       · rfl
                       simp only [Act.put, List.setIfInBounds_toArray, List.set_cons_zero, List.set_cons_succ])
                  first
                    | (refine h_run (i := 1) (v := ?_) hHeld rfl (by kernel_rfl) (by kernel_rfl) (by kernel_rfl) ?_ ?_ ?_
                       rotate_left
                       · rfl
                       · (intro x hSx; (try dsimp only at hSx); go_simp <;> with_reducible rfl)
                       simp only [Act.put, List.setIfInBounds_toArray, List.set_cons_zero, List.set_cons_succ])
                    | (refine h_skip (i := 1) hHeld rfl (by kernel_rfl) (by kernel_rfl) (by kernel_rfl) ?_ ?_
                       · rfl
                       simp only [Act.put, List.setIfInBounds_toArray, List.set_cons_zero, List.set_cons_succ])
                  first
                    | (refine h_run (i := 2) (v := ?_) hHeld rfl (by kernel_rfl) (by kernel_rfl) (by kernel_rfl) ?_ ?_ ?_
                       rotate_left
                       · rfl
                       · (intro x hSx; (try dsimp only at hSx); go_simp <;> with_reducible rfl)
                       simp only [Act.put, List.setIfInBounds_toArray, List.set_cons_zero, List.set_cons_succ])
                    | (refine h_skip (i := 2) hHeld rfl (by kernel_rfl) (by kernel_rfl) (by kernel_rfl) ?_ ?_
                       · rfl
                       simp only [Act.put, List.setIfInBounds_toArray, List.set_cons_zero, List.set_cons_succ])
                  first
                    | (refine h_run (i := 3) (v := ?_) hHeld rfl (by kernel_rfl) (by kernel_rfl) (by kernel_rfl) ?_ ?_ ?_
                       rotate_left
                       · rfl
                       · (intro x hSx; (try dsimp only at hSx); go_simp <;> with_reducible rfl)
                       simp only [Act.put, List.setIfInBounds_toArray, List.set_cons_zero, List.set_cons_succ])
                    | (refine h_skip (i := 3) hHeld rfl (by kernel_rfl) (by kernel_rfl) (by kernel_rfl) ?_ ?_
                       · rfl
                       simp only [Act.put, List.setIfInBounds_toArray, List.set_cons_zero, List.set_cons_succ])
                  first
                    | (refine h_run (i := 4) (v := ?_) hHeld rfl (by kernel_rfl) (by kernel_rfl) (by kernel_rfl) ?_ ?_ ?_
                       rotate_left
                       · rfl
                       · (intro x hSx; (try dsimp only at hSx); go_simp <;> with_reducible rfl)
                       simp only [Act.put, List.setIfInBounds_toArray, List.set_cons_zero, List.set_cons_succ])
                    | (refine h_skip (i := 4) hHeld rfl (by kernel_rfl) (by kernel_rfl) (by kernel_rfl) ?_ ?_
                       · rfl
                       simp only [Act.put, List.setIfInBounds_toArray, List.set_cons_zero, List.set_cons_succ])
                  first
                    | (refine h_run (i := 6) (v := ?_) hHeld rfl (by kernel_rfl) (by kernel_rfl) (by kernel_rfl) ?_ ?_ ?_
                       rotate_left
                       · rfl
                       · (intro x hSx; (try dsimp only at hSx); go_simp <;> with_reducible rfl)
                       simp only [Act.put, List.setIfInBounds_toArray, List.set_cons_zero, List.set_cons_succ])
                    | (refine h_skip (i := 6) hHeld rfl (by kernel_rfl) (by kernel_rfl) (by kernel_rfl) ?_ ?_
                       · rfl
                       simp only [Act.put, List.setIfInBounds_toArray, List.set_cons_zero, List.set_cons_succ])
                  first
                    | (refine h_run (i := 7) (v := ?_) hHeld rfl (by kernel_rfl) (by kernel_rfl) (by kernel_rfl) ?_ ?_ ?_
                       rotate_left
                       · rfl
                       · (intro x hSx; (try dsimp only at hSx); go_simp <;> with_reducible rfl)
                       simp only [Act.put, List.setIfInBounds_toArray, List.set_cons_zero, List.set_cons_succ])
                    | (refine h_skip (i := 7) hHeld rfl (by kernel_rfl) (by kernel_rfl) (by kernel_rfl) ?_ ?_
                       · rfl
                       simp only [Act.put, List.setIfInBounds_toArray, List.set_cons_zero, List.set_cons_succ])
                  first
                    | (refine h_run (i := 8) (v := ?_) hHeld rfl (by kernel_rfl) (by kernel_rfl) (by kernel_rfl) ?_ ?_ ?_
                       rotate_left
                       · rfl
                       · (intro x hSx; (try dsimp only at hSx); go_simp <;> with_reducible rfl)
                       simp only [Act.put, List.setIfInBounds_toArray, List.set_cons_zero, List.set_cons_succ])
                    | (refine h_skip (i := 8) hHeld rfl (by kernel_rfl) (by kernel_rfl) (by kernel_rfl) ?_ ?_
                       · rfl
                       simp only [Act.put, List.setIfInBounds_toArray, List.set_cons_zero, List.set_cons_succ])
                  first
                    | (refine h_run (i := 9) (v := ?_) hHeld rfl (by kernel_rfl) (by kernel_rfl) (by kernel_rfl) ?_ ?_ ?_
                       rotate_left
                       · rfl
                       · (intro x hSx; (try dsimp only at hSx); go_simp <;> with_reducible rfl)
                       simp only [Act.put, List.setIfInBounds_toArray, List.set_cons_zero, List.set_cons_succ])
                    | (refine h_skip (i := 9) hHeld rfl (by kernel_rfl) (by kernel_rfl) (by kernel_rfl) ?_ ?_
                       · rfl
                       simp only [Act.put, List.setIfInBounds_toArray, List.set_cons_zero, List.set_cons_succ])
                  first
                    | (refine h_run (i := 10) (v := ?_) hHeld rfl (by kernel_rfl) (by kernel_rfl) (by kernel_rfl) ?_ ?_ ?_
                       rotate_left
                       · rfl
                       · (intro x hSx; (try dsimp only at hSx); go_simp <;> with_reducible rfl)
                       simp only [Act.put, List.setIfInBounds_toArray, List.set_cons_zero, List.set_cons_succ])
                    | (refine h_skip (i := 10) hHeld rfl (by kernel_rfl) (by kernel_rfl) (by kernel_rfl) ?_ ?_
                       · rfl
                       simp only [Act.put, List.setIfInBounds_toArray, List.set_cons_zero, List.set_cons_succ])
                  obtain ⟨s6, q6, W6, hr6, hv6, hg6, hf6⟩ := i_one hLd.out.r0 hLd.out.lo.size hlen0.out xv 31
                  obtain ⟨b7, b2, hL9⟩ := hLd.out.row0 hg6 (row_more hv6) hf6
                  have hL9h := Lib.hid hL9
                  have c7 : wd.cell? ⟨g7, 0, none⟩ = some s0 := (cell_of_block hLd.out.h7).trans rfl
                  have hBm : Below wd.heap.size wd (wd.alloc (.cells #[.int .u16 xv] 34)) := (Below.refl _ _).alloc (Nat.le_refl _) _
                  have hLa := hLd.out.below hBm
                  have c7a : (wd.alloc (.cells #[.int .u16 xv] 34)).cell? ⟨g7, 0, none⟩ = some s0 := (cell_of_block hLa.h7).trans rfl
                  have hS1 : (fun y : World => y.cell? ⟨g2, 1, none⟩ = some (.int .i64 0) ∧ y.cell? ⟨b, off + i * 2 + 1, none⟩ = some (.int .u16 xv)) (wd.alloc (.cells #[.int .u16 xv] 34)) := ⟨hc1.out _ hLa.h2, hcXh.out _ hLa.lo⟩
                  have hS6 : (fun y : World => y.cell? ⟨g2, 1, none⟩ = some (.int .i64 0) ∧ y.cell? ⟨b, off + i * 2 + 1, none⟩ = some (.int .u16 xv)) W6 := ⟨hc1.out _ b2, hcXh.out _ (below_grown hLd.out.lo (Nat.le_refl _) hg6 (fun p hp => (hLd.out.r0.lt p hp).1))⟩
                  have hS9 : (fun y : World => y.cell? ⟨g2, 1, none⟩ = some (.int .i64 0) ∧ y.cell? ⟨b, off + i * 2 + 1, none⟩ = some (.int .u16 xv)) (W6.setCell ⟨g7, 0, none⟩ (.slice s6 (E.Q0.I.length + 1) q6)) := ⟨hc1.out _ hL9.h2, hcXh.out _ hL9.lo⟩
                  have c76 : W6.cell? ⟨g7, 0, none⟩ = some s0 := (cell_of_block b7).trans rfl
                  have f76 := frozen_of_row _ g7 0 _ _ b7
                  clear hL9 hLa hBm hf6 hv6 b7 b2
                  refine h_twoW (i := 5) (j := 11) (vi := s0) (vj := .slice (some ⟨wd.heap.size, 0, none⟩) 1 1) (w1 := wd.alloc (.cells #[.int .u16 xv] 34)) rfl rfl (by kernel_rfl) (by kernel_rfl) (by kernel_rfl) (fun _ => rfl) (fun _ => rfl) ?_ ?_ ?_ ?_ rfl rfl hHeld hS1 ?_
                  · go_simp <;> with_reducible rfl
                  · go_simp <;> with_reducible rfl
                  · go_simp <;> with_reducible rfl
                  · go_simp <;> with_reducible rfl
                  try simp only [Act.put, List.setIfInBounds_toArray, List.set_cons_zero, List.set_cons_succ]
                  refine h_value (i := 12) (v := .slice s6 (E.Q0.I.length + 1) q6) (w' := W6) (fun y : World => y.cell? ⟨g2, 1, none⟩ = some (.int .i64 0) ∧ y.cell? ⟨b, off + i * 2 + 1, none⟩ = some (.int .u16 xv)) (fun _ h => h) rfl (by kernel_rfl) rfl ?_ hS6 ?_
                  · exact exec_appendV (.tmp 129) (.tmp 135) _ _ rfl rfl rfl hr6
                  try simp only [Act.put, List.setIfInBounds_toArray, List.set_cons_zero, List.set_cons_succ]
                  have hHeld : (fun y : World => y.cell? ⟨g2, 1, none⟩ = some (.int .i64 0) ∧ y.cell? ⟨b, off + i * 2 + 1, none⟩ = some (.int .u16 xv)) W6 := hS6
                  first
                    | (refine h_run (i := 13) (v := ?_) hHeld rfl (by kernel_rfl) (by kernel_rfl) (by kernel_rfl) ?_ ?_ ?_
                       rotate_left
                       · rfl
                       · (intro x hSx; (try dsimp only at hSx); go_simp <;> with_reducible rfl)
                       simp only [Act.put, List.setIfInBounds_toArray, List.set_cons_zero, List.set_cons_succ])
                    | (refine h_skip (i := 13) hHeld rfl (by kernel_rfl) (by kernel_rfl) (by kernel_rfl) ?_ ?_
                       · rfl
                       simp only [Act.put, List.setIfInBounds_toArray, List.set_cons_zero, List.set_cons_succ])
                  refine h_write (i := 14) (w' := W6.setCell ⟨g7, 0, none⟩ (.slice s6 (E.Q0.I.length + 1) q6)) (fun y : World => y.cell? ⟨g2, 1, none⟩ = some (.int .i64 0) ∧ y.cell? ⟨b, off + i * 2 + 1, none⟩ = some (.int .u16 xv)) (fun _ h => h) rfl (by kernel_rfl) rfl ?_ hS9 ?_
                  · go_simp <;> with_reducible rfl
                  refine h_done (by kernel_rfl) ?_
                  try simp only [Act.put, List.setIfInBounds_toArray, List.set_cons_zero, List.set_cons_succ]
                  clear hS9 hS6 hS1 hr6 c7 c7a c76 f76 hHeld hc1 hg6 hLd
                  generalize World.setCell W6 _ _ = w9 at *
                  have hqs : Hid (E2.Q0.I = E.Q0.I ++ [xv] ∧ E2.Q1.I = E.Q1.I) := hide (hq0h.out (by have := hl0.out; have := hcl1h.out; omega))
                  have hend : Hid (LwAt w w9 c E2 g2 g7 #[.int .u32 seed, .int .i64 (l : Nat), .int .i64 (d : Nat), .int .i64 (a : Nat)] (.slice s6 (E.Q0.I.length + 1) q6) s1 E2.Q0.I E2.Q1.I) := hide (by
                    have h := hL9h.out
                    rw [hqs.out.1, hqs.out.2]
                    exact h)
                  have hlen : Hid ((E2.qr c).I.length = (E.qr c).I.length) := hide (by have := hl0.out; have := hcl1h.out; unfold EnS.qr; rw [if_pos (by omega), if_pos (by omega), hqs.out.2])
                  go_wp2_with fail
                  go_meet
                  exact ⟨E2, f + 1, _, _, hend, hR5, hide ⟨by have := hbd.out.1; omega, by rw [hlen.out]; have := hbd.out.2; omega⟩⟩
                · have hle : Hid (((l : Nat) : Int) = 1) := hide (by have := hl0.out; omega)
                  go_upto_region 21 with (fail)
                  have hLd : Hid (LwAt w w5.drew c E2 g2 g7 #[.int .u32 seed, .int .i64 (l : Nat), .int .i64 (d : Nat), .int .i64 (a : Nat)] s0 s1 E.Q0.I E.Q1.I) := hide (hL.out.drewN 1)
                  have hc1 : Hid (∀ z : World, z.heap[g2]? = some (.cells #[.int .u32 seed, .int .i64 (l : Nat), .int .i64 (d : Nat), .int .i64 (a : Nat)] 24 (0, 0)) → z.cell? ⟨g2, 1, none⟩ = some (.int .i64 1)) := hide (fun z hz => by rw [cell_of_block hz]; show some (Value.int .i64 (l : Nat)) = _; rw [hle.out])
                  have hw0 : IntKind.i64.wrap 0 = 0 := IntWalk.i64_in _ (by omega)
                  have hw1 : IntKind.i64.wrap 1 = 1 := IntWalk.i64_in _ (by omega)
                  have hHeld : (fun y : World => y.cell? ⟨g2, 1, none⟩ = some (.int .i64 1) ∧ y.cell? ⟨b, off + i * 2 + 1, none⟩ = some (.int .u16 xv)) w5.drew := ⟨hc1.out _ hLd.out.h2, hcXh.out _ hLd.out.lo⟩
                  refine h_begin 15 (fun y : World => y.cell? ⟨g2, 1, none⟩ = some (.int .i64 1) ∧ y.cell? ⟨b, off + i * 2 + 1, none⟩ = some (.int .u16 xv)) rfl (by kernel_rfl) hHeld ?_
                  clear hL
                  generalize w5.drew = wd at *
                  first
                    | (refine h_run (i := 0) (v := ?_) hHeld rfl (by kernel_rfl) (by kernel_rfl) (by kernel_rfl) ?_ ?_ ?_
                       rotate_left
                       · rfl
                       · (intro x hSx; (try dsimp only at hSx); go_simp <;> with_reducible rfl)
                       simp only [Act.put, List.setIfInBounds_toArray, List.set_cons_zero, List.set_cons_succ])
                    | (refine h_skip (i := 0) hHeld rfl (by kernel_rfl) (by kernel_rfl) (by kernel_rfl) ?_ ?_
                       · rfl
                       simp only [Act.put, List.setIfInBounds_toArray, List.set_cons_zero, List.set_cons_succ])
                  first
                    | (refine h_run (i := 1) (v := ?_) hHeld rfl (by kernel_rfl) (by kernel_rfl) (by kernel_rfl) ?_ ?_ ?_
                       rotate_left
                       · rfl
                       · (intro x hSx; (try dsimp only at hSx); go_simp <;> with_reducible rfl)
                       simp only [Act.put, List.setIfInBounds_toArray, List.set_cons_zero, List.set_cons_succ])
                    | (refine h_skip (i := 1) hHeld rfl (by kernel_rfl) (by kernel_rfl) (by kernel_rfl) ?_ ?_
                       · rfl
                       simp only [Act.put, List.setIfInBounds_toArray, List.set_cons_zero, List.set_cons_succ])
                  first
                    | (refine h_run (i := 2) (v := ?_) hHeld rfl (by kernel_rfl) (by kernel_rfl) (by kernel_rfl) ?_ ?_ ?_
                       rotate_left
                       · rfl
                       · (intro x hSx; (try dsimp only at hSx); go_simp <;> with_reducible rfl)
                       simp only [Act.put, List.setIfInBounds_toArray, List.set_cons_zero, List.set_cons_succ])
                    | (refine h_skip (i := 2) hHeld rfl (by kernel_rfl) (by kernel_rfl) (by kernel_rfl) ?_ ?_
                       · rfl
                       simp only [Act.put, List.setIfInBounds_toArray, List.set_cons_zero, List.set_cons_succ])
                  first
                    | (refine h_run (i := 3) (v := ?_) hHeld rfl (by kernel_rfl) (by kernel_rfl) (by kernel_rfl) ?_ ?_ ?_
                       rotate_left
                       · rfl
                       · (intro x hSx; (try dsimp only at hSx); go_simp <;> with_reducible rfl)
                       simp only [Act.put, List.setIfInBounds_toArray, List.set_cons_zero, List.set_cons_succ])
                    | (refine h_skip (i := 3) hHeld rfl (by kernel_rfl) (by kernel_rfl) (by kernel_rfl) ?_ ?_
                       · rfl
                       simp only [Act.put, List.setIfInBounds_toArray, List.set_cons_zero, List.set_cons_succ])
                  first
                    | (refine h_run (i := 4) (v := ?_) hHeld rfl (by kernel_rfl) (by kernel_rfl) (by kernel_rfl) ?_ ?_ ?_
                       rotate_left
                       · rfl
                       · (intro x hSx; (try dsimp only at hSx); go_simp <;> with_reducible rfl)
                       simp only [Act.put, List.setIfInBounds_toArray, List.set_cons_zero, List.set_cons_succ])
                    | (refine h_skip (i := 4) hHeld rfl (by kernel_rfl) (by kernel_rfl) (by kernel_rfl) ?_ ?_
                       · rfl
                       simp only [Act.put, List.setIfInBounds_toArray, List.set_cons_zero, List.set_cons_succ])
                  first
                    | (refine h_run (i := 6) (v := ?_) hHeld rfl (by kernel_rfl) (by kernel_rfl) (by kernel_rfl) ?_ ?_ ?_
                       rotate_left
                       · rfl
                       · (intro x hSx; (try dsimp only at hSx); go_simp <;> with_reducible rfl)
                       simp only [Act.put, List.setIfInBounds_toArray, List.set_cons_zero, List.set_cons_succ])
                    | (refine h_skip (i := 6) hHeld rfl (by kernel_rfl) (by kernel_rfl) (by kernel_rfl) ?_ ?_
                       · rfl
                       simp only [Act.put, List.setIfInBounds_toArray, List.set_cons_zero, List.set_cons_succ])
                  first
                    | (refine h_run (i := 7) (v := ?_) hHeld rfl (by kernel_rfl) (by kernel_rfl) (by kernel_rfl) ?_ ?_ ?_
                       rotate_left
                       · rfl
                       · (intro x hSx; (try dsimp only at hSx); go_simp <;> with_reducible rfl)
                       simp only [Act.put, List.setIfInBounds_toArray, List.set_cons_zero, List.set_cons_succ])
                    | (refine h_skip (i := 7) hHeld rfl (by kernel_rfl) (by kernel_rfl) (by kernel_rfl) ?_ ?_
                       · rfl
                       simp only [Act.put, List.setIfInBounds_toArray, List.set_cons_zero, List.set_cons_succ])
                  first
                    | (refine h_run (i := 8) (v := ?_) hHeld rfl (by kernel_rfl) (by kernel_rfl) (by kernel_rfl) ?_ ?_ ?_
                       rotate_left
                       · rfl
                       · (intro x hSx; (try dsimp only at hSx); go_simp <;> with_reducible rfl)
                       simp only [Act.put, List.setIfInBounds_toArray, List.set_cons_zero, List.set_cons_succ])
                    | (refine h_skip (i := 8) hHeld rfl (by kernel_rfl) (by kernel_rfl) (by kernel_rfl) ?_ ?_
                       · rfl
                       simp only [Act.put, List.setIfInBounds_toArray, List.set_cons_zero, List.set_cons_succ])
                  first
                    | (refine h_run (i := 9) (v := ?_) hHeld rfl (by kernel_rfl) (by kernel_rfl) (by kernel_rfl) ?_ ?_ ?_
                       rotate_left
                       · rfl
                       · (intro x hSx; (try dsimp only at hSx); go_simp <;> with_reducible rfl)
                       simp only [Act.put, List.setIfInBounds_toArray, List.set_cons_zero, List.set_cons_succ])
                    | (refine h_skip (i := 9) hHeld rfl (by kernel_rfl) (by kernel_rfl) (by kernel_rfl) ?_ ?_
                       · rfl
                       simp only [Act.put, List.setIfInBounds_toArray, List.set_cons_zero, List.set_cons_succ])
                  first
                    | (refine h_run (i := 10) (v := ?_) hHeld rfl (by kernel_rfl) (by kernel_rfl) (by kernel_rfl) ?_ ?_ ?_
                       rotate_left
                       · rfl
                       · (intro x hSx; (try dsimp only at hSx); go_simp <;> with_reducible rfl)
                       simp only [Act.put, List.setIfInBounds_toArray, List.set_cons_zero, List.set_cons_succ])
                    | (refine h_skip (i := 10) hHeld rfl (by kernel_rfl) (by kernel_rfl) (by kernel_rfl) ?_ ?_
                       · rfl
                       simp only [Act.put, List.setIfInBounds_toArray, List.set_cons_zero, List.set_cons_succ])
                  obtain ⟨s6, q6, W6, hr6, hv6, hg6, hf6⟩ := i_one hLd.out.r1 hLd.out.lo.size hlen1.out xv 31
                  obtain ⟨b7, b2, hL9⟩ := hLd.out.row1 hg6 (row_more hv6) hf6
                  have hL9h := Lib.hid hL9
                  have c7 : wd.cell? ⟨g7, 1, none⟩ = some s1 := (cell_of_block hLd.out.h7).trans rfl
                  have hBm : Below wd.heap.size wd (wd.alloc (.cells #[.int .u16 xv] 34)) := (Below.refl _ _).alloc (Nat.le_refl _) _
                  have hLa := hLd.out.below hBm
                  have c7a : (wd.alloc (.cells #[.int .u16 xv] 34)).cell? ⟨g7, 1, none⟩ = some s1 := (cell_of_block hLa.h7).trans rfl
                  have hS1 : (fun y : World => y.cell? ⟨g2, 1, none⟩ = some (.int .i64 1) ∧ y.cell? ⟨b, off + i * 2 + 1, none⟩ = some (.int .u16 xv)) (wd.alloc (.cells #[.int .u16 xv] 34)) := ⟨hc1.out _ hLa.h2, hcXh.out _ hLa.lo⟩
                  have hS6 : (fun y : World => y.cell? ⟨g2, 1, none⟩ = some (.int .i64 1) ∧ y.cell? ⟨b, off + i * 2 + 1, none⟩ = some (.int .u16 xv)) W6 := ⟨hc1.out _ b2, hcXh.out _ (below_grown hLd.out.lo (Nat.le_refl _) hg6 (fun p hp => (hLd.out.r1.lt p hp).1))⟩
                  have hS9 : (fun y : World => y.cell? ⟨g2, 1, none⟩ = some (.int .i64 1) ∧ y.cell? ⟨b, off + i * 2 + 1, none⟩ = some (.int .u16 xv)) (W6.setCell ⟨g7, 1, none⟩ (.slice s6 (E.Q1.I.length + 1) q6)) := ⟨hc1.out _ hL9.h2, hcXh.out _ hL9.lo⟩
                  have c76 : W6.cell? ⟨g7, 1, none⟩ = some s1 := (cell_of_block b7).trans rfl
                  have f76 := frozen_of_row _ g7 1 _ _ b7
                  clear hL9 hLa hBm hf6 hv6 b7 b2
                  refine h_twoW (i := 5) (j := 11) (vi := s1) (vj := .slice (some ⟨wd.heap.size, 0, none⟩) 1 1) (w1 := wd.alloc (.cells #[.int .u16 xv] 34)) rfl rfl (by kernel_rfl) (by kernel_rfl) (by kernel_rfl) (fun _ => rfl) (fun _ => rfl) ?_ ?_ ?_ ?_ rfl rfl hHeld hS1 ?_
                  · go_simp <;> with_reducible rfl
                  · go_simp <;> with_reducible rfl
                  · go_simp <;> with_reducible rfl
                  · go_simp <;> with_reducible rfl
                  try simp only [Act.put, List.setIfInBounds_toArray, List.set_cons_zero, List.set_cons_succ]
                  refine h_value (i := 12) (v := .slice s6 (E.Q1.I.length + 1) q6) (w' := W6) (fun y : World => y.cell? ⟨g2, 1, none⟩ = some (.int .i64 1) ∧ y.cell? ⟨b, off + i * 2 + 1, none⟩ = some (.int .u16 xv)) (fun _ h => h) rfl (by kernel_rfl) rfl ?_ hS6 ?_
                  · exact exec_appendV (.tmp 129) (.tmp 135) _ _ rfl rfl rfl hr6
                  try simp only [Act.put, List.setIfInBounds_toArray, List.set_cons_zero, List.set_cons_succ]
                  have hHeld : (fun y : World => y.cell? ⟨g2, 1, none⟩ = some (.int .i64 1) ∧ y.cell? ⟨b, off + i * 2 + 1, none⟩ = some (.int .u16 xv)) W6 := hS6
                  first
                    | (refine h_run (i := 13) (v := ?_) hHeld rfl (by kernel_rfl) (by kernel_rfl) (by kernel_rfl) ?_ ?_ ?_
                       rotate_left
                       · rfl
                       · (intro x hSx; (try dsimp only at hSx); go_simp <;> with_reducible rfl)
                       simp only [Act.put, List.setIfInBounds_toArray, List.set_cons_zero, List.set_cons_succ])
                    | (refine h_skip (i := 13) hHeld rfl (by kernel_rfl) (by kernel_rfl) (by kernel_rfl) ?_ ?_
                       · rfl
                       simp only [Act.put, List.setIfInBounds_toArray, List.set_cons_zero, List.set_cons_succ])
                  refine h_write (i := 14) (w' := W6.setCell ⟨g7, 1, none⟩ (.slice s6 (E.Q1.I.length + 1) q6)) (fun y : World => y.cell? ⟨g2, 1, none⟩ = some (.int .i64 1) ∧ y.cell? ⟨b, off + i * 2 + 1, none⟩ = some (.int .u16 xv)) (fun _ h => h) rfl (by kernel_rfl) rfl ?_ hS9 ?_
                  · go_simp <;> with_reducible rfl
                  refine h_done (by kernel_rfl) ?_
                  try simp only [Act.put, List.setIfInBounds_toArray, List.set_cons_zero, List.set_cons_succ]
                  clear hS9 hS6 hS1 hr6 c7 c7a c76 f76 hHeld hc1 hg6 hLd
                  generalize World.setCell W6 _ _ = w9 at *
                  have hqs : Hid (E2.Q0.I = E.Q0.I ∧ E2.Q1.I = E.Q1.I ++ [xv]) := hide (hq1h.out (by have := hl0.out; have := hcl1h.out; omega))
                  have hend : Hid (LwAt w w9 c E2 g2 g7 #[.int .u32 seed, .int .i64 (l : Nat), .int .i64 (d : Nat), .int .i64 (a : Nat)] s0 (.slice s6 (E.Q1.I.length + 1) q6) E2.Q0.I E2.Q1.I) := hide (by
                    have h := hL9h.out
                    rw [hqs.out.1, hqs.out.2]
                    exact h)
                  have hlen : Hid ((E2.qr c).I.length = (E.qr c).I.length) := hide (by have := hl0.out; have := hcl1h.out; unfold EnS.qr; rw [if_neg (by omega), if_neg (by omega), hqs.out.1])
                  go_wp2_with fail
                  go_meet
                  exact ⟨E2, f + 1, _, _, hend, hR5, hide ⟨by have := hbd.out.1; omega, by rw [hlen.out]; have := hbd.out.2; omega⟩⟩
          case rest =>
            clear hL hR hbd cX
            obtain ⟨E, f, s0, s1, hL, hR, hbd⟩ := hcut
            have c3 : wc.cell? ⟨g2, 3, none⟩ = some (.int .i64 (a : Nat)) := (cell_of_block hL.out.h2).trans rfl
            have k1 := Lib.hid (fun q => by obtain ⟨_, _, _, hA, _⟩ := (hL.out.drewN q).en; exact e_worst hA.b)
            have k2 := Lib.hid (fun q => by obtain ⟨_, _, _, hA, _⟩ := (hL.out.drewN q).en; exact e_frame hA.b)
            have k3 := Lib.hid (fun q => by obtain ⟨_, _, _, hA, _⟩ := (hL.out.drewN q).en; exact e_conf hA hR.out.num.sm)
            rw [hxh.out] at k1 k2 k3
            rw [hR.out.num.fr] at k2
            obtain ⟨m, hm⟩ : ∃ m, E.conf = m := ⟨_, rfl⟩
            obtain ⟨wo, hwo⟩ : ∃ wo, E.wo = wo := ⟨_, rfl⟩
            rw [hm] at k3
            rw [hwo] at k1
            have hfm : f ≤ m + a ∧ m ≤ 100000 ∧ f ≤ 150 ∧ wo ≤ (a : Int) := by
              have h1 := hR.out.ia
              have h2 := hR.out.il
              have h3 := (E.qlr c).2.2
              have h4 := hcah.out
              have h5 := hR.out.fb
              have h6 := hR.out.ir
              have h7 := hR.out.del
              have h8 := hR.out.wo
              omega
            have hw : IntKind.i64.wrap ((f : Int) - (m : Int)) = (f : Int) - (m : Int) := IntWalk.i64_in _ (by omega)
            have dw : decide ((a : Int) < wo) = false := decide_eq_false (by omega)
            have df : decide ((a : Int) < (f : Int) - (m : Int)) = false := decide_eq_false (by omega)
            clear hfm hm hwo
            go_upto_region 22 with (fail)
            go_quiet (first | (go_at_call 9; exact Calls.quiet_of_same ((k1.out _).mono fun _ _ hx => ⟨hx.1, hx.2.symm⟩)) | (go_at_call 10; exact Calls.quiet_of_same ((k2.out _).mono fun _ _ hx => ⟨hx.1, hx.2.symm⟩)) | (go_at_call 11; exact Calls.quiet_of (k3.out _)))
            have hL9 := Lib.hid (hL.out.drewN nq)
            clear k1 k2 k3 c3 hL hw dw df
            generalize wc.drewN nq = w9 at *
            go_wp2_with fail
            refine ⟨?_, ?_⟩
            rotate_left
            · simp [intOf]; omega
            first
              | exact ⟨i + 1, E, f, s0, s1, by omega, by omega, by go_num, hL9, hR, hbd⟩
              | (repeat (apply Exists.intro)
                 exact ⟨⟨i + 1, E, f, s0, s1, by omega, by omega, by go_num, hL9, hR, hbd⟩, rfl⟩)
        · go_upto_region 14 with (fail)
          go_cut [80] from 73 to 152 (fun v80 wx => v80 = .bool false ∧ wx = wr)
          case first =>
            by_cases hil : i < len1
            · have e1 : (i : Int) < (len1 : Int) := by omega
              have e2 : decide ((i : Int) < 150) = false := decide_eq_false (by omega)
              have e3 : decide (i < 150) = false := decide_eq_false (by omega)
              go_wp2_with fail
              go_meet
              exact ⟨rfl, rfl⟩
            · have e1 : decide ((i : Int) < (len1 : Int)) = false := decide_eq_false (by omega)
              have e2 : decide (i < len1) = false := decide_eq_false hil
              go_wp2_with fail
              go_meet
              exact ⟨rfl, rfl⟩
          case rest =>
            obtain ⟨rfl, rfl⟩ := hcut
            have hbq : Hid ((E.qr c).I.length ≤ 160) := hide (by have := hbd.out.2; have := hd8h.out; omega)
            clear hbd
            go_upto_region 25 with (fail)
            go_loopw [12] (fun v12 wr => ∃ (j : Nat) (E : EnS) (s0 s1 : Value), v12 = .int .i64 (j : Nat) ∧ Hid (LwAt w wr c E g2 g7 #[.int .u32 seed, .int .i64 (l : Nat), .int .i64 (d : Nat), .int .i64 (a : Nat)] s0 s1 E.Q0.I E.Q1.I) ∧ Hid (Rest c (newF seed) E f) ∧ Hid (j ≤ (E.qr c).I.length ∧ (E.qr c).I.length ≤ 160)) (fun v12 _ => 200 - (intOf v12).toNat)
            case atStart => exact ⟨0, E, s0, s1, rfl, hL, hR, hide ⟨by omega, hbq.out⟩⟩
            case round =>
              clear hL hR hbq
              obtain ⟨j, E, s0, s1, rfl, hL, hR, hj⟩ := hrel
              have hRn := Lib.hid hR.out.num
              have j200 : (j : Int) < 200 := by have := hj.out; omega
              have kf := Lib.hid (fun q => by obtain ⟨_, _, _, hA, _⟩ := (hL.out.drewN q).en; exact e_frame hA.b)
              rw [hRn.out.fr, hxh.out] at kf
              go_upto_region 25 with (fail)
              go_cut [165] from 153 to 185 (fun v165 wx => v165 = .bool (decide ((E.qr c).I.length < f)) ∧ ∃ q, wx = wr.drewN q)
              case first =>
                rcases (show Hid (l = 0) ∨ Hid (l = 1) from (show l = 0 ∨ l = 1 by have := hl2h.out; omega).imp hide hide) with hl0 | hl0
                · have hle : Hid (((l : Nat) : Int) = 0) := hide (by have := hl0.out; omega)
                  have c1 : wr.cell? ⟨g2, 1, none⟩ = some (.int .i64 0) := by rw [cell_of_block hL.out.h2]; show some (Value.int .i64 (l : Nat)) = _; rw [hle.out]
                  have hql : Hid ((E.qr c).I.length = E.Q1.I.length) := hide (by have := hl0.out; have := hcl1h.out; unfold EnS.qr; rw [if_pos (by omega)])
                  obtain ⟨sp, cp, hsk, -, -⟩ := hL.out.r1.form
                  have c7 : wr.cell? ⟨g7, 1, none⟩ = some (.slice sp E.Q1.I.length cp) := by rw [← hsk]; exact (cell_of_block hL.out.h7).trans rfl
                  have hskh := Lib.hid hsk
                  clear hsk
                  have hw0 : IntKind.i64.wrap 0 = 0 := IntWalk.i64_in _ (by omega)
                  have hw1 : IntKind.i64.wrap 1 = 1 := IntWalk.i64_in _ (by omega)
                  go_quiet ((go_at_call 10; exact Calls.quiet_of_same ((kf.out _).mono fun _ _ hx => ⟨hx.1, hx.2.symm⟩)))
                  go_wp2_with fail
                  go_meet
                  refine ⟨?_, _, rfl⟩
                  rw [hql.out]
                  all_goals (first | rfl | (congr 1; done) | (congr 1; simp; done) | simp)
                · have hle : Hid (((l : Nat) : Int) = 1) := hide (by have := hl0.out; omega)
                  have c1 : wr.cell? ⟨g2, 1, none⟩ = some (.int .i64 1) := by rw [cell_of_block hL.out.h2]; show some (Value.int .i64 (l : Nat)) = _; rw [hle.out]
                  have hql : Hid ((E.qr c).I.length = E.Q0.I.length) := hide (by have := hl0.out; have := hcl1h.out; unfold EnS.qr; rw [if_neg (by omega)])
                  obtain ⟨sp, cp, hsk, -, -⟩ := hL.out.r0.form
                  have c7 : wr.cell? ⟨g7, 0, none⟩ = some (.slice sp E.Q0.I.length cp) := by rw [← hsk]; exact (cell_of_block hL.out.h7).trans rfl
                  have hskh := Lib.hid hsk
                  clear hsk
                  have hw0 : IntKind.i64.wrap 0 = 0 := IntWalk.i64_in _ (by omega)
                  have hw1 : IntKind.i64.wrap 1 = 1 := IntWalk.i64_in _ (by omega)
                  go_quiet ((go_at_call 10; exact Calls.quiet_of_same ((kf.out _).mono fun _ _ hx => ⟨hx.1, hx.2.symm⟩)))
                  go_wp2_with fail
                  go_meet
                  refine ⟨?_, _, rfl⟩
                  rw [hql.out]
                  all_goals (first | rfl | (congr 1; done) | (congr 1; simp; done) | simp)
              case rest =>
                obtain ⟨rfl, q, rfl⟩ := hcut
                have hL3 := Lib.hid (hL.out.drewN q)
                clear hL kf
                generalize wr.drewN q = wz at *
                have hL := hL3
                clear hL3
                by_cases hlt : (E.qr c).I.length < f
                · have dlt : decide ((E.qr c).I.length < f) = true := decide_eq_true hlt
                  rw [dlt]
                  have hlth := Lib.hid hlt
                  clear dlt hlt
                  have hlen0 : Hid (E.Q0.I.length ≤ 100000) := hide (by have := hRn.out.i0; omega)
                  have hlen1 : Hid (E.Q1.I.length ≤ 100000) := hide (by have := hRn.out.i1; omega)
                  have kad : Hid (Calls Try.prog 7 #[.pointer (some ⟨x, 0, none⟩), .int .u16 5] wz (fun e w' => e = .returned (.tuple #[.int .i64 ((E.qr c).I.length : Nat), .int .i64 0]) ∧ LwAt w w' c (E.setR c ((E.qr c).add 5)) g2 g7 #[.int .u32 seed, .int .i64 (l : Nat), .int .i64 (d : Nat), .int .i64 (a : Nat)] s0 s1 E.Q0.I E.Q1.I)) := hide (by
                    obtain ⟨F0, F1, FS, hA, hto⟩ := hL.out.hand
                    have hok := hR.out.addOk
                    rw [← hxh.out]
                    refine (e_addRemote hA hRn.out.sm 5 hok.1 hok.2.1 hok.2.2).mono ?_
                    intro e w' hP
                    unfold AddEnd at hP
                    rw [if_neg (by have := hlth.out; omega)] at hP
                    exact ⟨hP.1, hto _ _ hP.2⟩)
                  have hR5 : Hid (Rest c (newF seed) (E.setR c ((E.qr c).add 5)) f) := hide (hR.out.add 5 (by have := hj.out; omega))
                  have hj5 : Hid (j + 1 ≤ ((E.setR c ((E.qr c).add 5)).qr c).I.length ∧ ((E.setR c ((E.qr c).add 5)).qr c).I.length ≤ 160) := hide (by
                    rw [setR_qr]
                    have h1 : ((E.qr c).add 5).I.length = (E.qr c).I.length + 1 := by show ((E.qr c).I ++ [5]).length = _; rw [List.length_append]; rfl
                    rw [h1]
                    have := hj.out
                    have := hlth.out
                    have := hR.out.fb
                    omega)
                  go_wp2_with fail
                  refine kad.out.mono ?_
                  rintro e w5 ⟨rfl, hL5⟩
                  have hL5h := Lib.hid hL5
                  clear hL5 hL kad
                  have hL := hL5h
                  clear hL5h
                  rcases (show Hid (l = 0) ∨ Hid (l = 1) from (show l = 0 ∨ l = 1 by have := hl2h.out; omega).imp hide hide) with hl0 | hl0
                  · have hle : Hid (((l : Nat) : Int) = 0) := hide (by have := hl0.out; omega)
                    go_upto_region 30 with (fail)
                    have hLd : Hid (LwAt w w5.drew c (E.setR c ((E.qr c).add 5)) g2 g7 #[.int .u32 seed, .int .i64 (l : Nat), .int .i64 (d : Nat), .int .i64 (a : Nat)] s0 s1 E.Q0.I E.Q1.I) := hide (hL.out.drewN 1)
                    have hc1 : Hid (∀ z : World, z.heap[g2]? = some (.cells #[.int .u32 seed, .int .i64 (l : Nat), .int .i64 (d : Nat), .int .i64 (a : Nat)] 24 (0, 0)) → z.cell? ⟨g2, 1, none⟩ = some (.int .i64 0)) := hide (fun z hz => by rw [cell_of_block hz]; show some (Value.int .i64 (l : Nat)) = _; rw [hle.out])
                    have hw0 : IntKind.i64.wrap 0 = 0 := IntWalk.i64_in _ (by omega)
                    have hw1 : IntKind.i64.wrap 1 = 1 := IntWalk.i64_in _ (by omega)
                    have hHeld : (fun y : World => y.cell? ⟨g2, 1, none⟩ = some (.int .i64 0)) w5.drew := hc1.out _ hLd.out.h2
                    refine h_begin 12 (fun y : World => y.cell? ⟨g2, 1, none⟩ = some (.int .i64 0)) rfl (by kernel_rfl) hHeld ?_
                    clear hL
                    generalize w5.drew = wd at *
                    first
                      | (refine h_run (i := 0) (v := ?_) hHeld rfl (by kernel_rfl) (by kernel_rfl) (by kernel_rfl) ?_ ?_ ?_
                         rotate_left
                         · rfl
                         · (intro x hSx; (try dsimp only at hSx); go_simp <;> with_reducible rfl)
                         simp only [Act.put, List.setIfInBounds_toArray, List.set_cons_zero, List.set_cons_succ])
                      | (refine h_skip (i := 0) hHeld rfl (by kernel_rfl) (by kernel_rfl) (by kernel_rfl) ?_ ?_
                         · rfl
                         simp only [Act.put, List.setIfInBounds_toArray, List.set_cons_zero, List.set_cons_succ])
                    first
                      | (refine h_run (i := 1) (v := ?_) hHeld rfl (by kernel_rfl) (by kernel_rfl) (by kernel_rfl) ?_ ?_ ?_
                         rotate_left
                         · rfl
                         · (intro x hSx; (try dsimp only at hSx); go_simp <;> with_reducible rfl)
                         simp only [Act.put, List.setIfInBounds_toArray, List.set_cons_zero, List.set_cons_succ])
                      | (refine h_skip (i := 1) hHeld rfl (by kernel_rfl) (by kernel_rfl) (by kernel_rfl) ?_ ?_
                         · rfl
                         simp only [Act.put, List.setIfInBounds_toArray, List.set_cons_zero, List.set_cons_succ])
                    first
                      | (refine h_run (i := 2) (v := ?_) hHeld rfl (by kernel_rfl) (by kernel_rfl) (by kernel_rfl) ?_ ?_ ?_
                         rotate_left
                         · rfl
                         · (intro x hSx; (try dsimp only at hSx); go_simp <;> with_reducible rfl)
                         simp only [Act.put, List.setIfInBounds_toArray, List.set_cons_zero, List.set_cons_succ])
                      | (refine h_skip (i := 2) hHeld rfl (by kernel_rfl) (by kernel_rfl) (by kernel_rfl) ?_ ?_
                         · rfl
                         simp only [Act.put, List.setIfInBounds_toArray, List.set_cons_zero, List.set_cons_succ])
                    first
                      | (refine h_run (i := 3) (v := ?_) hHeld rfl (by kernel_rfl) (by kernel_rfl) (by kernel_rfl) ?_ ?_ ?_
                         rotate_left
                         · rfl
                         · (intro x hSx; (try dsimp only at hSx); go_simp <;> with_reducible rfl)
                         simp only [Act.put, List.setIfInBounds_toArray, List.set_cons_zero, List.set_cons_succ])
                      | (refine h_skip (i := 3) hHeld rfl (by kernel_rfl) (by kernel_rfl) (by kernel_rfl) ?_ ?_
                         · rfl
                         simp only [Act.put, List.setIfInBounds_toArray, List.set_cons_zero, List.set_cons_succ])
                    first
                      | (refine h_run (i := 4) (v := ?_) hHeld rfl (by kernel_rfl) (by kernel_rfl) (by kernel_rfl) ?_ ?_ ?_
                         rotate_left
                         · rfl
                         · (intro x hSx; (try dsimp only at hSx); go_simp <;> with_reducible rfl)
                         simp only [Act.put, List.setIfInBounds_toArray, List.set_cons_zero, List.set_cons_succ])
                      | (refine h_skip (i := 4) hHeld rfl (by kernel_rfl) (by kernel_rfl) (by kernel_rfl) ?_ ?_
                         · rfl
                         simp only [Act.put, List.setIfInBounds_toArray, List.set_cons_zero, List.set_cons_succ])
                    first
                      | (refine h_run (i := 5) (v := ?_) hHeld rfl (by kernel_rfl) (by kernel_rfl) (by kernel_rfl) ?_ ?_ ?_
                         rotate_left
                         · rfl
                         · (intro x hSx; (try dsimp only at hSx); go_simp <;> with_reducible rfl)
                         simp only [Act.put, List.setIfInBounds_toArray, List.set_cons_zero, List.set_cons_succ])
                      | (refine h_skip (i := 5) hHeld rfl (by kernel_rfl) (by kernel_rfl) (by kernel_rfl) ?_ ?_
                         · rfl
                         simp only [Act.put, List.setIfInBounds_toArray, List.set_cons_zero, List.set_cons_succ])
                    first
                      | (refine h_run (i := 6) (v := ?_) hHeld rfl (by kernel_rfl) (by kernel_rfl) (by kernel_rfl) ?_ ?_ ?_
                         rotate_left
                         · rfl
                         · (intro x hSx; (try dsimp only at hSx); go_simp <;> with_reducible rfl)
                         simp only [Act.put, List.setIfInBounds_toArray, List.set_cons_zero, List.set_cons_succ])
                      | (refine h_skip (i := 6) hHeld rfl (by kernel_rfl) (by kernel_rfl) (by kernel_rfl) ?_ ?_
                         · rfl
                         simp only [Act.put, List.setIfInBounds_toArray, List.set_cons_zero, List.set_cons_succ])
                    obtain ⟨s6, q6, W6, hr6, hv6, hg6, hf6⟩ := i_one hLd.out.r1 hLd.out.lo.size hlen1.out 5 31
                    obtain ⟨b7, b2, hL9⟩ := hLd.out.row1 hg6 (row_more hv6) hf6
                    have hL9h := Lib.hid hL9
                    have c7 : wd.cell? ⟨g7, 1, none⟩ = some s1 := (cell_of_block hLd.out.h7).trans rfl
                    have hBm : Below wd.heap.size wd (wd.alloc (.cells #[.int .u16 5] 34)) := (Below.refl _ _).alloc (Nat.le_refl _) _
                    have hLa := hLd.out.below hBm
                    have c7a : (wd.alloc (.cells #[.int .u16 5] 34)).cell? ⟨g7, 1, none⟩ = some s1 := (cell_of_block hLa.h7).trans rfl
                    have hS1 : (fun y : World => y.cell? ⟨g2, 1, none⟩ = some (.int .i64 0)) (wd.alloc (.cells #[.int .u16 5] 34)) := hc1.out _ hLa.h2
                    have hS6 : (fun y : World => y.cell? ⟨g2, 1, none⟩ = some (.int .i64 0)) W6 := hc1.out _ b2
                    have hS9 : (fun y : World => y.cell? ⟨g2, 1, none⟩ = some (.int .i64 0)) (W6.setCell ⟨g7, 1, none⟩ (.slice s6 (E.Q1.I.length + 1) q6)) := hc1.out _ hL9.h2
                    have c76 : W6.cell? ⟨g7, 1, none⟩ = some s1 := (cell_of_block b7).trans rfl
                    have f76 := frozen_of_row _ g7 1 _ _ b7
                    clear hL9 hLa hBm hf6 hv6 b7 b2
                    refine h_twoW (i := 7) (j := 8) (vi := s1) (vj := .slice (some ⟨wd.heap.size, 0, none⟩) 1 1) (w1 := wd.alloc (.cells #[.int .u16 5] 34)) rfl rfl (by kernel_rfl) (by kernel_rfl) (by kernel_rfl) (fun _ => rfl) (fun _ => rfl) ?_ ?_ ?_ ?_ rfl rfl hHeld hS1 ?_
                    · go_simp <;> with_reducible rfl
                    · go_simp <;> with_reducible rfl
                    · go_simp <;> with_reducible rfl
                    · go_simp <;> with_reducible rfl
                    try simp only [Act.put, List.setIfInBounds_toArray, List.set_cons_zero, List.set_cons_succ]
                    refine h_value (i := 9) (v := .slice s6 (E.Q1.I.length + 1) q6) (w' := W6) (fun y : World => y.cell? ⟨g2, 1, none⟩ = some (.int .i64 0)) (fun _ h => h) rfl (by kernel_rfl) rfl ?_ hS6 ?_
                    · exact exec_appendV (.tmp 182) (.tmp 183) _ _ rfl rfl rfl hr6
                    try simp only [Act.put, List.setIfInBounds_toArray, List.set_cons_zero, List.set_cons_succ]
                    have hHeld : (fun y : World => y.cell? ⟨g2, 1, none⟩ = some (.int .i64 0)) W6 := hS6
                    first
                      | (refine h_run (i := 10) (v := ?_) hHeld rfl (by kernel_rfl) (by kernel_rfl) (by kernel_rfl) ?_ ?_ ?_
                         rotate_left
                         · rfl
                         · (intro x hSx; (try dsimp only at hSx); go_simp <;> with_reducible rfl)
                         simp only [Act.put, List.setIfInBounds_toArray, List.set_cons_zero, List.set_cons_succ])
                      | (refine h_skip (i := 10) hHeld rfl (by kernel_rfl) (by kernel_rfl) (by kernel_rfl) ?_ ?_
                         · rfl
                         simp only [Act.put, List.setIfInBounds_toArray, List.set_cons_zero, List.set_cons_succ])
                    refine h_write (i := 11) (w' := W6.setCell ⟨g7, 1, none⟩ (.slice s6 (E.Q1.I.length + 1) q6)) (fun y : World => y.cell? ⟨g2, 1, none⟩ = some (.int .i64 0)) (fun _ h => h) rfl (by kernel_rfl) rfl ?_ hS9 ?_
                    · go_simp <;> with_reducible rfl
                    refine h_done (by kernel_rfl) ?_
                    try simp only [Act.put, List.setIfInBounds_toArray, List.set_cons_zero, List.set_cons_succ]
                    clear hS9 hS6 hS1 hr6 c7 c7a c76 f76 hHeld hc1 hg6 hLd
                    generalize World.setCell W6 _ _ = w9 at *
                    have hend : Hid (LwAt w w9 c (E.setR c ((E.qr c).add 5)) g2 g7 #[.int .u32 seed, .int .i64 (l : Nat), .int .i64 (d : Nat), .int .i64 (a : Nat)] s0 (.slice s6 (E.Q1.I.length + 1) q6) (E.setR c ((E.qr c).add 5)).Q0.I (E.setR c ((E.qr c).add 5)).Q1.I) := hide (by
                      have h := hL9h.out
                      have e : E.setR c ((E.qr c).add 5) = { E with Q1 := E.Q1.add 5 } := by have := hl0.out; have := hcl1h.out; unfold EnS.setR EnS.qr; rw [if_pos (by omega), if_pos (by omega)]
                      rw [e] at h ⊢
                      exact h)
                    clear hL9h
                    go_wp2_with fail
                    refine ⟨?_, ?_⟩
                    rotate_left
                    · simp [intOf]; omega
                    first
                      | exact ⟨j + 1, _, _, _, by go_num, hend, hR5, hj5⟩
                      | (repeat (apply Exists.intro)
                         exact ⟨⟨j + 1, _, _, _, by go_num, hend, hR5, hj5⟩, rfl⟩)
                  · have hle : Hid (((l : Nat) : Int) = 1) := hide (by have := hl0.out; omega)
                    go_upto_region 30 with (fail)
                    have hLd : Hid (LwAt w w5.drew c (E.setR c ((E.qr c).add 5)) g2 g7 #[.int .u32 seed, .int .i64 (l : Nat), .int .i64 (d : Nat), .int .i64 (a : Nat)] s0 s1 E.Q0.I E.Q1.I) := hide (hL.out.drewN 1)
                    have hc1 : Hid (∀ z : World, z.heap[g2]? = some (.cells #[.int .u32 seed, .int .i64 (l : Nat), .int .i64 (d : Nat), .int .i64 (a : Nat)] 24 (0, 0)) → z.cell? ⟨g2, 1, none⟩ = some (.int .i64 1)) := hide (fun z hz => by rw [cell_of_block hz]; show some (Value.int .i64 (l : Nat)) = _; rw [hle.out])
                    have hw0 : IntKind.i64.wrap 0 = 0 := IntWalk.i64_in _ (by omega)
                    have hw1 : IntKind.i64.wrap 1 = 1 := IntWalk.i64_in _ (by omega)
                    have hHeld : (fun y : World => y.cell? ⟨g2, 1, none⟩ = some (.int .i64 1)) w5.drew := hc1.out _ hLd.out.h2
                    refine h_begin 12 (fun y : World => y.cell? ⟨g2, 1, none⟩ = some (.int .i64 1)) rfl (by kernel_rfl) hHeld ?_
                    clear hL
                    generalize w5.drew = wd at *
                    first
                      | (refine h_run (i := 0) (v := ?_) hHeld rfl (by kernel_rfl) (by kernel_rfl) (by kernel_rfl) ?_ ?_ ?_
                         rotate_left
                         · rfl
                         · (intro x hSx; (try dsimp only at hSx); go_simp <;> with_reducible rfl)
                         simp only [Act.put, List.setIfInBounds_toArray, List.set_cons_zero, List.set_cons_succ])
                      | (refine h_skip (i := 0) hHeld rfl (by kernel_rfl) (by kernel_rfl) (by kernel_rfl) ?_ ?_
                         · rfl
                         simp only [Act.put, List.setIfInBounds_toArray, List.set_cons_zero, List.set_cons_succ])
                    first
                      | (refine h_run (i := 1) (v := ?_) hHeld rfl (by kernel_rfl) (by kernel_rfl) (by kernel_rfl) ?_ ?_ ?_
                         rotate_left
                         · rfl
                         · (intro x hSx; (try dsimp only at hSx); go_simp <;> with_reducible rfl)
                         simp only [Act.put, List.setIfInBounds_toArray, List.set_cons_zero, List.set_cons_succ])
                      | (refine h_skip (i := 1) hHeld rfl (by kernel_rfl) (by kernel_rfl) (by kernel_rfl) ?_ ?_
                         · rfl
                         simp only [Act.put, List.setIfInBounds_toArray, List.set_cons_zero, List.set_cons_succ])
                    first
                      | (refine h_run (i := 2) (v := ?_) hHeld rfl (by kernel_rfl) (by kernel_rfl) (by kernel_rfl) ?_ ?_ ?_
                         rotate_left
                         · rfl
                         · (intro x hSx; (try dsimp only at hSx); go_simp <;> with_reducible rfl)
                         simp only [Act.put, List.setIfInBounds_toArray, List.set_cons_zero, List.set_cons_succ])
                      | (refine h_skip (i := 2) hHeld rfl (by kernel_rfl) (by kernel_rfl) (by kernel_rfl) ?_ ?_
                         · rfl
                         simp only [Act.put, List.setIfInBounds_toArray, List.set_cons_zero, List.set_cons_succ])
                    first
                      | (refine h_run (i := 3) (v := ?_) hHeld rfl (by kernel_rfl) (by kernel_rfl) (by kernel_rfl) ?_ ?_ ?_
                         rotate_left
                         · rfl
                         · (intro x hSx; (try dsimp only at hSx); go_simp <;> with_reducible rfl)
                         simp only [Act.put, List.setIfInBounds_toArray, List.set_cons_zero, List.set_cons_succ])
                      | (refine h_skip (i := 3) hHeld rfl (by kernel_rfl) (by kernel_rfl) (by kernel_rfl) ?_ ?_
                         · rfl
                         simp only [Act.put, List.setIfInBounds_toArray, List.set_cons_zero, List.set_cons_succ])
                    first
                      | (refine h_run (i := 4) (v := ?_) hHeld rfl (by kernel_rfl) (by kernel_rfl) (by kernel_rfl) ?_ ?_ ?_
                         rotate_left
                         · rfl
                         · (intro x hSx; (try dsimp only at hSx); go_simp <;> with_reducible rfl)
                         simp only [Act.put, List.setIfInBounds_toArray, List.set_cons_zero, List.set_cons_succ])
                      | (refine h_skip (i := 4) hHeld rfl (by kernel_rfl) (by kernel_rfl) (by kernel_rfl) ?_ ?_
                         · rfl
                         simp only [Act.put, List.setIfInBounds_toArray, List.set_cons_zero, List.set_cons_succ])
                    first
                      | (refine h_run (i := 5) (v := ?_) hHeld rfl (by kernel_rfl) (by kernel_rfl) (by kernel_rfl) ?_ ?_ ?_
                         rotate_left
                         · rfl
                         · (intro x hSx; (try dsimp only at hSx); go_simp <;> with_reducible rfl)
                         simp only [Act.put, List.setIfInBounds_toArray, List.set_cons_zero, List.set_cons_succ])
                      | (refine h_skip (i := 5) hHeld rfl (by kernel_rfl) (by kernel_rfl) (by kernel_rfl) ?_ ?_
                         · rfl
                         simp only [Act.put, List.setIfInBounds_toArray, List.set_cons_zero, List.set_cons_succ])
                    first
                      | (refine h_run (i := 6) (v := ?_) hHeld rfl (by kernel_rfl) (by kernel_rfl) (by kernel_rfl) ?_ ?_ ?_
                         rotate_left
                         · rfl
                         · (intro x hSx; (try dsimp only at hSx); go_simp <;> with_reducible rfl)
                         simp only [Act.put, List.setIfInBounds_toArray, List.set_cons_zero, List.set_cons_succ])
                      | (refine h_skip (i := 6) hHeld rfl (by kernel_rfl) (by kernel_rfl) (by kernel_rfl) ?_ ?_
                         · rfl
                         simp only [Act.put, List.setIfInBounds_toArray, List.set_cons_zero, List.set_cons_succ])
                    obtain ⟨s6, q6, W6, hr6, hv6, hg6, hf6⟩ := i_one hLd.out.r0 hLd.out.lo.size hlen0.out 5 31
                    obtain ⟨b7, b2, hL9⟩ := hLd.out.row0 hg6 (row_more hv6) hf6
                    have hL9h := Lib.hid hL9
                    have c7 : wd.cell? ⟨g7, 0, none⟩ = some s0 := (cell_of_block hLd.out.h7).trans rfl
                    have hBm : Below wd.heap.size wd (wd.alloc (.cells #[.int .u16 5] 34)) := (Below.refl _ _).alloc (Nat.le_refl _) _
                    have hLa := hLd.out.below hBm
                    have c7a : (wd.alloc (.cells #[.int .u16 5] 34)).cell? ⟨g7, 0, none⟩ = some s0 := (cell_of_block hLa.h7).trans rfl
                    have hS1 : (fun y : World => y.cell? ⟨g2, 1, none⟩ = some (.int .i64 1)) (wd.alloc (.cells #[.int .u16 5] 34)) := hc1.out _ hLa.h2
                    have hS6 : (fun y : World => y.cell? ⟨g2, 1, none⟩ = some (.int .i64 1)) W6 := hc1.out _ b2
                    have hS9 : (fun y : World => y.cell? ⟨g2, 1, none⟩ = some (.int .i64 1)) (W6.setCell ⟨g7, 0, none⟩ (.slice s6 (E.Q0.I.length + 1) q6)) := hc1.out _ hL9.h2
                    have c76 : W6.cell? ⟨g7, 0, none⟩ = some s0 := (cell_of_block b7).trans rfl
                    have f76 := frozen_of_row _ g7 0 _ _ b7
                    clear hL9 hLa hBm hf6 hv6 b7 b2
                    refine h_twoW (i := 7) (j := 8) (vi := s0) (vj := .slice (some ⟨wd.heap.size, 0, none⟩) 1 1) (w1 := wd.alloc (.cells #[.int .u16 5] 34)) rfl rfl (by kernel_rfl) (by kernel_rfl) (by kernel_rfl) (fun _ => rfl) (fun _ => rfl) ?_ ?_ ?_ ?_ rfl rfl hHeld hS1 ?_
                    · go_simp <;> with_reducible rfl
                    · go_simp <;> with_reducible rfl
                    · go_simp <;> with_reducible rfl
                    · go_simp <;> with_reducible rfl
                    try simp only [Act.put, List.setIfInBounds_toArray, List.set_cons_zero, List.set_cons_succ]
                    refine h_value (i := 9) (v := .slice s6 (E.Q0.I.length + 1) q6) (w' := W6) (fun y : World => y.cell? ⟨g2, 1, none⟩ = some (.int .i64 1)) (fun _ h => h) rfl (by kernel_rfl) rfl ?_ hS6 ?_
                    · exact exec_appendV (.tmp 182) (.tmp 183) _ _ rfl rfl rfl hr6
                    try simp only [Act.put, List.setIfInBounds_toArray, List.set_cons_zero, List.set_cons_succ]
                    have hHeld : (fun y : World => y.cell? ⟨g2, 1, none⟩ = some (.int .i64 1)) W6 := hS6
                    first
                      | (refine h_run (i := 10) (v := ?_) hHeld rfl (by kernel_rfl) (by kernel_rfl) (by kernel_rfl) ?_ ?_ ?_
                         rotate_left
                         · rfl
                         · (intro x hSx; (try dsimp only at hSx); go_simp <;> with_reducible rfl)
                         simp only [Act.put, List.setIfInBounds_toArray, List.set_cons_zero, List.set_cons_succ])
                      | (refine h_skip (i := 10) hHeld rfl (by kernel_rfl) (by kernel_rfl) (by kernel_rfl) ?_ ?_
                         · rfl
                         simp only [Act.put, List.setIfInBounds_toArray, List.set_cons_zero, List.set_cons_succ])
                    refine h_write (i := 11) (w' := W6.setCell ⟨g7, 0, none⟩ (.slice s6 (E.Q0.I.length + 1) q6)) (fun y : World => y.cell? ⟨g2, 1, none⟩ = some (.int .i64 1)) (fun _ h => h) rfl (by kernel_rfl) rfl ?_ hS9 ?_
                    · go_simp <;> with_reducible rfl
                    refine h_done (by kernel_rfl) ?_
                    try simp only [Act.put, List.setIfInBounds_toArray, List.set_cons_zero, List.set_cons_succ]
                    clear hS9 hS6 hS1 hr6 c7 c7a c76 f76 hHeld hc1 hg6 hLd
                    generalize World.setCell W6 _ _ = w9 at *
                    have hend : Hid (LwAt w w9 c (E.setR c ((E.qr c).add 5)) g2 g7 #[.int .u32 seed, .int .i64 (l : Nat), .int .i64 (d : Nat), .int .i64 (a : Nat)] (.slice s6 (E.Q0.I.length + 1) q6) s1 (E.setR c ((E.qr c).add 5)).Q0.I (E.setR c ((E.qr c).add 5)).Q1.I) := hide (by
                      have h := hL9h.out
                      have e : E.setR c ((E.qr c).add 5) = { E with Q0 := E.Q0.add 5 } := by have := hl0.out; have := hcl1h.out; unfold EnS.setR EnS.qr; rw [if_neg (by omega), if_neg (by omega)]
                      rw [e] at h ⊢
                      exact h)
                    clear hL9h
                    go_wp2_with fail
                    refine ⟨?_, ?_⟩
                    rotate_left
                    · simp [intOf]; omega
                    first
                      | exact ⟨j + 1, _, _, _, by go_num, hend, hR5, hj5⟩
                      | (repeat (apply Exists.intro)
                         exact ⟨⟨j + 1, _, _, _, by go_num, hend, hR5, hj5⟩, rfl⟩)
                · have dlt : decide ((E.qr c).I.length < f) = false := decide_eq_false hlt
                  rw [dlt]
                  have hge : Hid (f ≤ (E.qr c).I.length) := hide (by omega)
                  clear dlt hlt
                  have kfix : Hid (Calls Try.prog 12 #[.pointer (some ⟨x, 0, none⟩)] wz (fun e w' => e = .returned (.int .i64 ((f - backTo c E f : Nat) : Int)) ∧ ∃ E1, LwAt w w' c E1 g2 g7 #[.int .u32 seed, .int .i64 (l : Nat), .int .i64 (d : Nat), .int .i64 (a : Nat)] s0 s1 E1.Q0.I E1.Q1.I ∧ Rest c (newF seed) E1 f ∧ (E1.qr c).wr = -1 ∧ f ≤ (E1.qr c).I.length)) := hide (by
                    obtain ⟨F0, F1, FS, hA, hto⟩ := hL.out.hand
                    rw [← hxh.out]
                    refine (hRn.out.fix hA).mono ?_
                    rintro e w' ⟨he, E1, hrel, hE⟩
                    obtain ⟨r1, r2, r3, r4⟩ := hR.out.fix hrel
                    have hql : (E1.qr c).I.length = (E.qr c).I.length := by unfold EnS.qr; split <;> simp [r3, r4]
                    exact ⟨he, E1, by rw [r3, r4]; exact hto _ _ hE, r1, r2, by rw [hql]; exact hge.out⟩)
                  go_upto_region 31 with (fail)
                  go_wp2_with fail
                  refine kfix.out.mono ?_
                  rintro e w6 ⟨rfl, E1, hL1, hR1, hw1, hl1⟩
                  have hL6 := Lib.hid hL1
                  have hpl := Lib.hid (hR1.played hw1 hl1)
                  have hR6 := Lib.hid hR1
                  have hw6 : Hid (E1.Q0.wr = -1 ∧ E1.Q1.wr = -1) := hide (by
                    have h1 := hR1.wl
                    unfold EnS.ql at h1
                    unfold EnS.qr at hw1
                    by_cases e : c.loc = 0
                    · rw [if_pos e] at h1 hw1; exact ⟨h1, hw1⟩
                    · rw [if_neg e] at h1 hw1; exact ⟨hw1, h1⟩)
                  clear hL1 hR1 hw1 hl1 kfix hL hR hRn hj hge
                  have c0 : w6.cell? ⟨g2, 0, none⟩ = some (.int .u32 seed) := (cell_of_block hL6.out.h2).trans rfl
                  have kn := Lib.hid (g_new seed w6)
                  go_wp2_with fail
                  refine kn.out.mono ?_
                  rintro e w7 ⟨rfl, hB7⟩
                  have hL7 := Lib.hid (hL6.out.below hB7)
                  clear hB7 hL6 c0 kn
                  have hz2 := zeroState
                  have hb0 : blk (w7.alloc (.cells (stA fun _ => 0) 49)) w7.heap.size = some (.cells (stA fun _ => 0) 49 (0, 0)) := blk_of (last0 _ _ _ rfl)
                  have hs3 : Hid (StAt ((w7.alloc (.cells (stA fun _ => 0) 49)).setRow w7.heap.size (stA (newF seed))) w7.heap.size (newF seed)) := hide (setRow_heap _ _ _ _ _ _ (blk_heap hb0))
                  have hL8 : Hid (LwAt w ((w7.alloc (.cells (stA fun _ => 0) 49)).setRow w7.heap.size (stA (newF seed))) c E1 g2 g7 #[.int .u32 seed, .int .i64 (l : Nat), .int .i64 (d : Nat), .int .i64 (a : Nat)] s0 s1 E1.Q0.I E1.Q1.I) := hide (hL7.out.below (below_setRow ((Below.refl _ _).alloc (Nat.le_refl _) _) (Nat.le_refl _) _))
                  have hlo7 : Hid (w.heap.size ≤ w7.heap.size) := hide hL7.out.lo.size
                  go_upto_region 33 with (fail)
                  clear hb0 hL7
                  generalize World.setRow _ _ _ = w8 at *
                  obtain ⟨g5, hg5⟩ : ∃ g5, w7.heap.size = g5 := ⟨_, rfl⟩
                  rw [hg5] at hs3 hlo7 ⊢
                  clear hg5
                  have hpl0 : Hid (play (newF seed) E1.Q0.I E1.Q1.I 0 = newF seed) := hide rfl
                  have hpls : Hid (∀ n, play (newF seed) E1.Q0.I E1.Q1.I (n + 1) = stepF (E1.Q0.I.getD n 0) (E1.Q1.I.getD n 0) (play (newF seed) E1.Q0.I E1.Q1.I n)) := hide (fun _ => rfl)
                  have hplk : Hid (∀ n, GOk (play (newF seed) E1.Q0.I E1.Q1.I n)) := hide (fun n => play_ok (GOk.new hsdh.out) _ _ n)
                  rw [← hpl0.out] at hs3
                  obtain ⟨PL, hPL⟩ : ∃ PL, play (newF seed) E1.Q0.I E1.Q1.I = PL := ⟨_, rfl⟩
                  rw [hPL] at hs3 hpls hplk hpl
                  clear hpl0 hPL
                  go_upto_region 34 with (fail)
                  go_loopw [16] (fun v16 wr => ∃ n : Nat, n ≤ f ∧ v16 = .int .i64 (n : Nat) ∧ Hid (LwAt w wr c E1 g2 g7 #[.int .u32 seed, .int .i64 (l : Nat), .int .i64 (d : Nat), .int .i64 (a : Nat)] s0 s1 E1.Q0.I E1.Q1.I) ∧ Hid (StAt wr g5 (PL n))) (fun v16 _ => f - (intOf v16).toNat)
                  case atStart => exact ⟨0, by omega, rfl, hL8, hs3⟩
                  case round =>
                    clear hL8 hs3
                    obtain ⟨n, hn, rfl, hL, hS⟩ := hrel
                    have kf := Lib.hid (by obtain ⟨_, _, _, hA, _⟩ := hL.out.en; exact e_frame hA.b)
                    rw [hR6.out.num.fr, hxh.out] at kf
                    have hf200 : f ≤ 150 := hR6.out.fb
                    by_cases hnf : n < f
                    · have n1 : (n : Int) < (f : Int) := by omega
                      have hl0 := hpl.out.2.1
                      have hl1 := hpl.out.2.2.1
                      obtain ⟨b0, o0, p0, hs0, cx0⟩ := row_at hL.out.r0 (show n < E1.Q0.I.length by omega)
                      obtain ⟨b1, o1, p1, hs1, cx1⟩ := row_at hL.out.r1 (show n < E1.Q1.I.length by omega)
                      have g70 : wr.cell? ⟨g7, 0, none⟩ = some (.slice (some ⟨b0, o0, none⟩) E1.Q0.I.length p0) := by rw [← hs0]; exact (cell_of_block hL.out.h7).trans rfl
                      have g71 : wr.cell? ⟨g7, 1, none⟩ = some (.slice (some ⟨b1, o1, none⟩) E1.Q1.I.length p1) := by rw [← hs1]; exact (cell_of_block hL.out.h7).trans rfl
                      have hn9 := Lib.hid (hpls.out n)
                      have hstep := Lib.hid (fun W => g_step (PL n) (E1.Q0.I.getD n 0) (E1.Q1.I.getD n 0) W (hplk.out n))
                      rw [← hpls.out n] at hstep
                      have hs0h := Lib.hid hs0
                      have hs1h := Lib.hid hs1
                      clear hs0 hs1
                      generalize hx0 : E1.Q0.I.getD n 0 = x0 at *
                      generalize hx1 : E1.Q1.I.getD n 0 = x1 at *
                      clear hx0 hx1 hn9
                      have i0 : (n : Int) < (E1.Q0.I.length : Int) := by omega
                      have i1 : (n : Int) < (E1.Q1.I.length : Int) := by omega
                      have e0 : decide ((n : Int) ≥ (E1.Q0.I.length : Int)) = false := decide_eq_false (by omega)
                      have e1 : decide ((n : Int) ≥ (E1.Q1.I.length : Int)) = false := decide_eq_false (by omega)
                      have e00 : decide (E1.Q0.I.length ≤ n) = false := decide_eq_false (by omega)
                      have e11 : decide (E1.Q1.I.length ≤ n) = false := decide_eq_false (by omega)
                      clear hl0 hl1
                      go_wp2_with fail
                      refine kf.out.mono ?_
                      rintro e w9 ⟨rfl, rfl⟩
                      go_upto_region 38 with (fail)
                      have hLd : Hid (LwAt w wr.drew c E1 g2 g7 #[.int .u32 seed, .int .i64 (l : Nat), .int .i64 (d : Nat), .int .i64 (a : Nat)] s0 s1 E1.Q0.I E1.Q1.I) := hide (hL.out.drewN 1)
                      have hSd : Hid (StAt wr.drew g5 (PL n)) := hide hS.out
                      have hkeep : Hid (∀ z, z.heap[g7]? = wr.heap[g7]? → z.heap[b0]? = wr.heap[b0]? → z.heap[b1]? = wr.heap[b1]? → (fun y : World => y.cell? ⟨g7, 0, none⟩ = some (.slice (some ⟨b0, o0, none⟩) E1.Q0.I.length p0) ∧ y.cell? ⟨g7, 1, none⟩ = some (.slice (some ⟨b1, o1, none⟩) E1.Q1.I.length p1) ∧ y.cell? ⟨b0, o0 + n, none⟩ = some (.int .u16 x0) ∧ y.cell? ⟨b1, o1 + n, none⟩ = some (.int .u16 x1)) z) := hide (fun z h7 h0 h1 => ⟨by rw [← g70]; exact cell_heap h7, by rw [← g71]; exact cell_heap h7, by rw [← cx0]; exact cell_heap h0, by rw [← cx1]; exact cell_heap h1⟩)
                      have hbne : Hid (g7 ≠ g5 ∧ b0 ≠ g5 ∧ b1 ≠ g5 ∧ g7 < wr.heap.size ∧ b0 < wr.heap.size ∧ b1 < wr.heap.size) := hide ⟨bty_ne hL.out.h7 hS.out (by decide), hL.out.r0.ne hS.out (by decide) b0 (by rw [hs0h.out]; rfl), hL.out.r1.ne hS.out (by decide) b1 (by rw [hs1h.out]; rfl), hL.out.g7lt, cell_block_lt cx0, cell_block_lt cx1⟩
                      have hHeld : (fun y : World => y.cell? ⟨g7, 0, none⟩ = some (.slice (some ⟨b0, o0, none⟩) E1.Q0.I.length p0) ∧ y.cell? ⟨g7, 1, none⟩ = some (.slice (some ⟨b1, o1, none⟩) E1.Q1.I.length p1) ∧ y.cell? ⟨b0, o0 + n, none⟩ = some (.int .u16 x0) ∧ y.cell? ⟨b1, o1 + n, none⟩ = some (.int .u16 x1)) wr.drew := ⟨g70, g71, cx0, cx1⟩
                      have bS : blk wr.drew g5 = some (.cells (stA (PL n)) 49 (0, 0)) := blk_of hSd.out
                      refine h_begin 14 (fun y : World => y.cell? ⟨g7, 0, none⟩ = some (.slice (some ⟨b0, o0, none⟩) E1.Q0.I.length p0) ∧ y.cell? ⟨g7, 1, none⟩ = some (.slice (some ⟨b1, o1, none⟩) E1.Q1.I.length p1) ∧ y.cell? ⟨b0, o0 + n, none⟩ = some (.int .u16 x0) ∧ y.cell? ⟨b1, o1 + n, none⟩ = some (.int .u16 x1)) rfl (by kernel_rfl) hHeld ?_
                      have hwd : Hid (wr.drew.heap = wr.heap) := hide rfl
                      clear hL hS kf g70 g71 cx0 cx1
                      generalize wr.drew = wd at *
                      first
                        | (refine h_run (i := 1) (v := ?_) hHeld rfl (by kernel_rfl) (by kernel_rfl) (by kernel_rfl) ?_ ?_ ?_
                           rotate_left
                           · rfl
                           · (intro x hSx; (try dsimp only at hSx); go_simp <;> with_reducible rfl)
                           simp only [Act.put, List.setIfInBounds_toArray, List.set_cons_zero, List.set_cons_succ])
                        | (refine h_skip (i := 1) hHeld rfl (by kernel_rfl) (by kernel_rfl) (by kernel_rfl) ?_ ?_
                           · rfl
                           simp only [Act.put, List.setIfInBounds_toArray, List.set_cons_zero, List.set_cons_succ])
                      first
                        | (refine h_run (i := 2) (v := ?_) hHeld rfl (by kernel_rfl) (by kernel_rfl) (by kernel_rfl) ?_ ?_ ?_
                           rotate_left
                           · rfl
                           · (intro x hSx; (try dsimp only at hSx); go_simp <;> with_reducible rfl)
                           simp only [Act.put, List.setIfInBounds_toArray, List.set_cons_zero, List.set_cons_succ])
                        | (refine h_skip (i := 2) hHeld rfl (by kernel_rfl) (by kernel_rfl) (by kernel_rfl) ?_ ?_
                           · rfl
                           simp only [Act.put, List.setIfInBounds_toArray, List.set_cons_zero, List.set_cons_succ])
                      first
                        | (refine h_run (i := 3) (v := ?_) hHeld rfl (by kernel_rfl) (by kernel_rfl) (by kernel_rfl) ?_ ?_ ?_
                           rotate_left
                           · rfl
                           · (intro x hSx; (try dsimp only at hSx); go_simp <;> with_reducible rfl)
                           simp only [Act.put, List.setIfInBounds_toArray, List.set_cons_zero, List.set_cons_succ])
                        | (refine h_skip (i := 3) hHeld rfl (by kernel_rfl) (by kernel_rfl) (by kernel_rfl) ?_ ?_
                           · rfl
                           simp only [Act.put, List.setIfInBounds_toArray, List.set_cons_zero, List.set_cons_succ])
                      first
                        | (refine h_run (i := 4) (v := ?_) hHeld rfl (by kernel_rfl) (by kernel_rfl) (by kernel_rfl) ?_ ?_ ?_
                           rotate_left
                           · rfl
                           · (intro x hSx; (try dsimp only at hSx); go_simp <;> with_reducible rfl)
                           simp only [Act.put, List.setIfInBounds_toArray, List.set_cons_zero, List.set_cons_succ])
                        | (refine h_skip (i := 4) hHeld rfl (by kernel_rfl) (by kernel_rfl) (by kernel_rfl) ?_ ?_
                           · rfl
                           simp only [Act.put, List.setIfInBounds_toArray, List.set_cons_zero, List.set_cons_succ])
                      first
                        | (refine h_run (i := 5) (v := ?_) hHeld rfl (by kernel_rfl) (by kernel_rfl) (by kernel_rfl) ?_ ?_ ?_
                           rotate_left
                           · rfl
                           · (intro x hSx; (try dsimp only at hSx); go_simp <;> with_reducible rfl)
                           simp only [Act.put, List.setIfInBounds_toArray, List.set_cons_zero, List.set_cons_succ])
                        | (refine h_skip (i := 5) hHeld rfl (by kernel_rfl) (by kernel_rfl) (by kernel_rfl) ?_ ?_
                           · rfl
                           simp only [Act.put, List.setIfInBounds_toArray, List.set_cons_zero, List.set_cons_succ])
                      first
                        | (refine h_run (i := 6) (v := ?_) hHeld rfl (by kernel_rfl) (by kernel_rfl) (by kernel_rfl) ?_ ?_ ?_
                           rotate_left
                           · rfl
                           · (intro x hSx; (try dsimp only at hSx); go_simp <;> with_reducible rfl)
                           simp only [Act.put, List.setIfInBounds_toArray, List.set_cons_zero, List.set_cons_succ])
                        | (refine h_skip (i := 6) hHeld rfl (by kernel_rfl) (by kernel_rfl) (by kernel_rfl) ?_ ?_
                           · rfl
                           simp only [Act.put, List.setIfInBounds_toArray, List.set_cons_zero, List.set_cons_succ])
                      first
                        | (refine h_run (i := 7) (v := ?_) hHeld rfl (by kernel_rfl) (by kernel_rfl) (by kernel_rfl) ?_ ?_ ?_
                           rotate_left
                           · rfl
                           · (intro x hSx; (try dsimp only at hSx); go_simp <;> with_reducible rfl)
                           simp only [Act.put, List.setIfInBounds_toArray, List.set_cons_zero, List.set_cons_succ])
                        | (refine h_skip (i := 7) hHeld rfl (by kernel_rfl) (by kernel_rfl) (by kernel_rfl) ?_ ?_
                           · rfl
                           simp only [Act.put, List.setIfInBounds_toArray, List.set_cons_zero, List.set_cons_succ])
                      first
                        | (refine h_run (i := 8) (v := ?_) hHeld rfl (by kernel_rfl) (by kernel_rfl) (by kernel_rfl) ?_ ?_ ?_
                           rotate_left
                           · rfl
                           · (intro x hSx; (try dsimp only at hSx); go_simp <;> with_reducible rfl)
                           simp only [Act.put, List.setIfInBounds_toArray, List.set_cons_zero, List.set_cons_succ])
                        | (refine h_skip (i := 8) hHeld rfl (by kernel_rfl) (by kernel_rfl) (by kernel_rfl) ?_ ?_
                           · rfl
                           simp only [Act.put, List.setIfInBounds_toArray, List.set_cons_zero, List.set_cons_succ])
                      first
                        | (refine h_run (i := 9) (v := ?_) hHeld rfl (by kernel_rfl) (by kernel_rfl) (by kernel_rfl) ?_ ?_ ?_
                           rotate_left
                           · rfl
                           · (intro x hSx; (try dsimp only at hSx); go_simp <;> with_reducible rfl)
                           simp only [Act.put, List.setIfInBounds_toArray, List.set_cons_zero, List.set_cons_succ])
                        | (refine h_skip (i := 9) hHeld rfl (by kernel_rfl) (by kernel_rfl) (by kernel_rfl) ?_ ?_
                           · rfl
                           simp only [Act.put, List.setIfInBounds_toArray, List.set_cons_zero, List.set_cons_succ])
                      first
                        | (refine h_run (i := 10) (v := ?_) hHeld rfl (by kernel_rfl) (by kernel_rfl) (by kernel_rfl) ?_ ?_ ?_
                           rotate_left
                           · rfl
                           · (intro x hSx; (try dsimp only at hSx); go_simp <;> with_reducible rfl)
                           simp only [Act.put, List.setIfInBounds_toArray, List.set_cons_zero, List.set_cons_succ])
                        | (refine h_skip (i := 10) hHeld rfl (by kernel_rfl) (by kernel_rfl) (by kernel_rfl) ?_ ?_
                           · rfl
                           simp only [Act.put, List.setIfInBounds_toArray, List.set_cons_zero, List.set_cons_succ])
                      first
                        | (refine h_run (i := 11) (v := ?_) hHeld rfl (by kernel_rfl) (by kernel_rfl) (by kernel_rfl) ?_ ?_ ?_
                           rotate_left
                           · rfl
                           · (intro x hSx; (try dsimp only at hSx); go_simp <;> with_reducible rfl)
                           simp only [Act.put, List.setIfInBounds_toArray, List.set_cons_zero, List.set_cons_succ])
                        | (refine h_skip (i := 11) hHeld rfl (by kernel_rfl) (by kernel_rfl) (by kernel_rfl) ?_ ?_
                           · rfl
                           simp only [Act.put, List.setIfInBounds_toArray, List.set_cons_zero, List.set_cons_succ])
                      refine h_value (i := 0) (v := .agg (stA (PL n))) (w' := wd) (fun y : World => y.cell? ⟨g7, 0, none⟩ = some (.slice (some ⟨b0, o0, none⟩) E1.Q0.I.length p0) ∧ y.cell? ⟨g7, 1, none⟩ = some (.slice (some ⟨b1, o1, none⟩) E1.Q1.I.length p1) ∧ y.cell? ⟨b0, o0 + n, none⟩ = some (.int .u16 x0) ∧ y.cell? ⟨b1, o1 + n, none⟩ = some (.int .u16 x1)) (fun _ h => h) rfl (by kernel_rfl) rfl ?_ hHeld ?_
                      · go_simp
                      try simp only [Act.put, List.setIfInBounds_toArray, List.set_cons_zero, List.set_cons_succ]
                      refine h_call (i := 12) (fun y : World => y.cell? ⟨g7, 0, none⟩ = some (.slice (some ⟨b0, o0, none⟩) E1.Q0.I.length p0) ∧ y.cell? ⟨g7, 1, none⟩ = some (.slice (some ⟨b1, o1, none⟩) E1.Q1.I.length p1) ∧ y.cell? ⟨b0, o0 + n, none⟩ = some (.int .u16 x0) ∧ y.cell? ⟨b1, o1 + n, none⟩ = some (.int .u16 x1)) (fun _ h => h) (hstep.out wd) rfl (by kernel_rfl) rfl ?_ ?_
                      · go_simp <;> with_reducible rfl
                      rintro _ w8 ⟨rfl, hB8⟩
                      have hL8 := Lib.hid (hLd.out.below hB8)
                      have hS8 : Hid (StAt w8 g5 (PL n)) := hide (hSd.out.keep (hB8.block g5 hSd.out.lt))
                      have b8 : blk w8 g5 = some (.cells (stA (PL n)) 49 (0, 0)) := blk_of hS8.out
                      have hsame8 : Hid (w8.heap[g7]? = wr.heap[g7]? ∧ w8.heap[b0]? = wr.heap[b0]? ∧ w8.heap[b1]? = wr.heap[b1]?) := hide (by
                        have h := hbne.out
                        have hh := hwd.out
                        refine ⟨?_, ?_, ?_⟩
                        · rw [← hh]; exact hB8.block g7 (by rw [hh]; exact h.2.2.2.1)
                        · rw [← hh]; exact hB8.block b0 (by rw [hh]; exact h.2.2.2.2.1)
                        · rw [← hh]; exact hB8.block b1 (by rw [hh]; exact h.2.2.2.2.2))
                      have hHeld : (fun y : World => y.cell? ⟨g7, 0, none⟩ = some (.slice (some ⟨b0, o0, none⟩) E1.Q0.I.length p0) ∧ y.cell? ⟨g7, 1, none⟩ = some (.slice (some ⟨b1, o1, none⟩) E1.Q1.I.length p1) ∧ y.cell? ⟨b0, o0 + n, none⟩ = some (.int .u16 x0) ∧ y.cell? ⟨b1, o1 + n, none⟩ = some (.int .u16 x1)) w8 := hkeep.out w8 hsame8.out.1 hsame8.out.2.1 hsame8.out.2.2
                      refine ⟨_, rfl, hHeld, ?_⟩
                      try simp only [Act.put, List.setIfInBounds_toArray, List.set_cons_zero, List.set_cons_succ]
                      have hS9 : Hid (StAt (w8.setRow g5 (stA (PL (n + 1)))) g5 (PL (n + 1))) := hide (setRow_heap _ _ _ _ _ _ hS8.out)
                      have hL9 : Hid (LwAt w (w8.setRow g5 (stA (PL (n + 1)))) c E1 g2 g7 #[.int .u32 seed, .int .i64 (l : Nat), .int .i64 (d : Nat), .int .i64 (a : Nat)] s0 s1 E1.Q0.I E1.Q1.I) := hide (hL8.out.off (touch_row w8 g5 _) hS8.out hlo7.out)
                      have hC9 : (fun y : World => y.cell? ⟨g7, 0, none⟩ = some (.slice (some ⟨b0, o0, none⟩) E1.Q0.I.length p0) ∧ y.cell? ⟨g7, 1, none⟩ = some (.slice (some ⟨b1, o1, none⟩) E1.Q1.I.length p1) ∧ y.cell? ⟨b0, o0 + n, none⟩ = some (.int .u16 x0) ∧ y.cell? ⟨b1, o1 + n, none⟩ = some (.int .u16 x1)) (w8.setRow g5 (stA (PL (n + 1)))) := hkeep.out _ ((setRow_other _ _ _ _ hbne.out.1).trans hsame8.out.1) ((setRow_other _ _ _ _ hbne.out.2.1).trans hsame8.out.2.1) ((setRow_other _ _ _ _ hbne.out.2.2.1).trans hsame8.out.2.2)
                      refine h_write (i := 13) (w' := w8.setRow g5 (stA (PL (n + 1)))) (fun y : World => y.cell? ⟨g7, 0, none⟩ = some (.slice (some ⟨b0, o0, none⟩) E1.Q0.I.length p0) ∧ y.cell? ⟨g7, 1, none⟩ = some (.slice (some ⟨b1, o1, none⟩) E1.Q1.I.length p1) ∧ y.cell? ⟨b0, o0 + n, none⟩ = some (.int .u16 x0) ∧ y.cell? ⟨b1, o1 + n, none⟩ = some (.int .u16 x1)) (fun _ h => h) rfl (by kernel_rfl) rfl ?_ hC9 ?_
                      · go_simp
                      refine h_done (by kernel_rfl) ?_
                      try simp only [Act.put, List.setIfInBounds_toArray, List.set_cons_zero, List.set_cons_succ]
                      clear hC9 hHeld hkeep hsame8 b8 bS hS8 hL8 hLd hSd hB8 hstep hbne hwd
                      generalize World.setRow w8 _ _ = w9 at *
                      go_wp2_with fail
                      refine ⟨?_, ?_⟩
                      rotate_left
                      · simp [intOf]; omega
                      first
                        | exact ⟨n + 1, by omega, by go_num, hL9, hS9⟩
                        | (repeat (apply Exists.intro)
                           exact ⟨⟨n + 1, by omega, by go_num, hL9, hS9⟩, rfl⟩)
                    · obtain rfl : n = f := by omega
                      have n1 : decide ((n : Int) < (n : Int)) = false := decide_eq_false (by omega)
                      have c3 : wr.cell? ⟨g2, 3, none⟩ = some (.int .i64 (a : Nat)) := (cell_of_block hL.out.h2).trans rfl
                      go_wp2_with fail
                      refine kf.out.mono ?_
                      rintro e w9 ⟨rfl, rfl⟩
                      go_upto_region 39 with (fail)
                      obtain ⟨SF, hSF⟩ : ∃ SF, PL n = SF := ⟨_, rfl⟩
                      rw [hSF] at hS hpl
                      clear hSF
                      have hwo : E1.wo ≤ (a : Int) := by have h1 := hR6.out.wo; have h2 := hcah.out; omega
                      obtain ⟨wo, hwoe⟩ : ∃ wo, E1.wo = wo := ⟨_, rfl⟩
                      have k1 := Lib.hid (fun (y : World) (hC0 : y.cell? ⟨g2, 3, none⟩ = some (.int .i64 (a : Nat)) ∧ blk y g5 = some (.cells (stA SF) 49 (0, 0)) ∧ LwAt w y c E1 g2 g7 #[.int .u32 seed, .int .i64 (l : Nat), .int .i64 (d : Nat), .int .i64 (a : Nat)] s0 s1 E1.Q0.I E1.Q1.I ∧ StAt y g5 SF) => (by have hC := hC0.2.2; obtain ⟨_, _, _, hA, _⟩ := hC.1.en; rw [← hxh.out, ← hpl.out.1]; exact e_state hA.b : Calls Try.prog 15 #[.pointer (some ⟨x, 0, none⟩)] y (Ret y (.agg (stA SF)))))
                      have k2 := Lib.hid (fun (y : World) (hC0 : y.cell? ⟨g2, 3, none⟩ = some (.int .i64 (a : Nat)) ∧ blk y g5 = some (.cells (stA SF) 49 (0, 0)) ∧ LwAt w y c E1 g2 g7 #[.int .u32 seed, .int .i64 (l : Nat), .int .i64 (d : Nat), .int .i64 (a : Nat)] s0 s1 E1.Q0.I E1.Q1.I ∧ StAt y g5 SF) => (by have hC := hC0.2.2; obtain ⟨_, _, _, hA, _⟩ := hC.1.en; have h := e_sure hA hR6.out.num.sm hw6.out.1 hw6.out.2; rw [hpl.out.2.2.2, hxh.out] at h; exact h.mono (fun e w' hx => ⟨hx.1, by obtain ⟨q, rfl⟩ := hx.2; exact below_drewN (Below.refl _ _) q⟩) : Calls Try.prog 16 #[.pointer (some ⟨x, 0, none⟩)] y (Ret y (.int .i64 (n : Nat)))))
                      have k3 := Lib.hid (fun (y : World) (hC0 : y.cell? ⟨g2, 3, none⟩ = some (.int .i64 (a : Nat)) ∧ blk y g5 = some (.cells (stA SF) 49 (0, 0)) ∧ LwAt w y c E1 g2 g7 #[.int .u32 seed, .int .i64 (l : Nat), .int .i64 (d : Nat), .int .i64 (a : Nat)] s0 s1 E1.Q0.I E1.Q1.I ∧ StAt y g5 SF) => (by have hC := hC0.2.2; obtain ⟨_, _, _, hA, _⟩ := hC.1.en; have h := e_frame hA.b; rw [hR6.out.num.fr, hxh.out] at h; exact h.mono (fun e w' hx => ⟨hx.1, by rw [← hx.2]; exact Below.refl _ _⟩) : Calls Try.prog 10 #[.pointer (some ⟨x, 0, none⟩)] y (Ret y (.int .i64 (n : Nat)))))
                      have k4 := Lib.hid (fun (y : World) (hC0 : y.cell? ⟨g2, 3, none⟩ = some (.int .i64 (a : Nat)) ∧ blk y g5 = some (.cells (stA SF) 49 (0, 0)) ∧ LwAt w y c E1 g2 g7 #[.int .u32 seed, .int .i64 (l : Nat), .int .i64 (d : Nat), .int .i64 (a : Nat)] s0 s1 E1.Q0.I E1.Q1.I ∧ StAt y g5 SF) => (by have hC := hC0.2.2; obtain ⟨_, _, _, hA, _⟩ := hC.1.en; have h := e_worst hA.b; rw [hwoe, hxh.out] at h; exact h.mono (fun e w' hx => ⟨hx.1, by rw [← hx.2]; exact Below.refl _ _⟩) : Calls Try.prog 9 #[.pointer (some ⟨x, 0, none⟩)] y (Ret y (.int .i64 wo))))
                      rw [hwoe] at hwo
                      have dwo : decide (wo ≤ (a : Int)) = true := decide_eq_true hwo
                      have hmkC : Hid (∀ y : World, (LwAt w y c E1 g2 g7 #[.int .u32 seed, .int .i64 (l : Nat), .int .i64 (d : Nat), .int .i64 (a : Nat)] s0 s1 E1.Q0.I E1.Q1.I ∧ StAt y g5 SF) → y.cell? ⟨g2, 3, none⟩ = some (.int .i64 (a : Nat)) ∧ blk y g5 = some (.cells (stA SF) 49 (0, 0)) ∧ LwAt w y c E1 g2 g7 #[.int .u32 seed, .int .i64 (l : Nat), .int .i64 (d : Nat), .int .i64 (a : Nat)] s0 s1 E1.Q0.I E1.Q1.I ∧ StAt y g5 SF) := hide (fun y hC => ⟨(cell_of_block hC.1.h2).trans rfl, blk_of hC.2, hC⟩)
                      have hclh : Hid (∀ y y' : World, (y.cell? ⟨g2, 3, none⟩ = some (.int .i64 (a : Nat)) ∧ blk y g5 = some (.cells (stA SF) 49 (0, 0)) ∧ LwAt w y c E1 g2 g7 #[.int .u32 seed, .int .i64 (l : Nat), .int .i64 (d : Nat), .int .i64 (a : Nat)] s0 s1 E1.Q0.I E1.Q1.I ∧ StAt y g5 SF) → Below y.heap.size y y' → (y'.cell? ⟨g2, 3, none⟩ = some (.int .i64 (a : Nat)) ∧ blk y' g5 = some (.cells (stA SF) 49 (0, 0)) ∧ LwAt w y' c E1 g2 g7 #[.int .u32 seed, .int .i64 (l : Nat), .int .i64 (d : Nat), .int .i64 (a : Nat)] s0 s1 E1.Q0.I E1.Q1.I ∧ StAt y' g5 SF)) := hide (fun y y' hC hB => hmkC.out y' ⟨hC.2.2.1.below hB, hC.2.2.2.keep (hB.block g5 hC.2.2.2.lt)⟩)
                      clear kf c3
                      refine wp_region_quiet (C := fun y => y.cell? ⟨g2, 3, none⟩ = some (.int .i64 (a : Nat)) ∧ blk y g5 = some (.cells (stA SF) 49 (0, 0)) ∧ LwAt w y c E1 g2 g7 #[.int .u32 seed, .int .i64 (l : Nat), .int .i64 (d : Nat), .int .i64 (a : Nat)] s0 s1 E1.Q0.I E1.Q1.I ∧ StAt y g5 SF) (by kernel_rfl) (by kernel_rfl) (hmkC.out _ ⟨hL.out.drewN 1, hS.out⟩) ?_
                      clear hL hS
                      repeat (first
                        | (refine q_run (v := ?_) ?_ ?_ ?_
                           rotate_left
                           · rfl
                           · (intro x hSx; (try dsimp only at hSx); go_simp <;> with_reducible rfl)
                           simp only [Act.put, List.setIfInBounds_toArray, List.set_cons_zero, List.set_cons_succ])
                        | (refine q_skip ?_ ?_
                           · rfl
                           simp only [Act.put, List.setIfInBounds_toArray, List.set_cons_zero, List.set_cons_succ])
                        | (refine q_call (fun x hCx => k1.out x hCx) hclh.out ?_ ?_ ?_
                           · rfl
                           · (intro x hSx; (try dsimp only at hSx); go_simp <;> with_reducible rfl)
                           simp only [Act.put, List.setIfInBounds_toArray, List.set_cons_zero, List.set_cons_succ])
                        | (refine q_call (fun x hCx => k2.out x hCx) hclh.out ?_ ?_ ?_
                           · rfl
                           · (intro x hSx; (try dsimp only at hSx); go_simp <;> with_reducible rfl)
                           simp only [Act.put, List.setIfInBounds_toArray, List.set_cons_zero, List.set_cons_succ])
                        | (refine q_call (fun x hCx => k3.out x hCx) hclh.out ?_ ?_ ?_
                           · rfl
                           · (intro x hSx; (try dsimp only at hSx); go_simp <;> with_reducible rfl)
                           simp only [Act.put, List.setIfInBounds_toArray, List.set_cons_zero, List.set_cons_succ])
                        | (refine q_call (fun x hCx => k4.out x hCx) hclh.out ?_ ?_ ?_
                           · rfl
                           · (intro x hSx; (try dsimp only at hSx); go_simp <;> with_reducible rfl)
                           simp only [Act.put, List.setIfInBounds_toArray, List.set_cons_zero, List.set_cons_succ]))
                      refine wpQuiet_nil ?_
                      intro x hSx
                      go_wp2_with fail
                      go_ret
                      exact ⟨rfl, hSx.2.2.1.lo⟩
end Go.Proofs.Ytmfagdbocidfjaa
