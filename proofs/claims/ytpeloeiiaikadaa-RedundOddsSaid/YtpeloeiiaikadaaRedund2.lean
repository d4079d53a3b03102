/- The contracts of package redund's New and Next, and of the document's Next. Conditions: the state lies at the pointer, or comes by value. -/
import Derived.Test.YtpeloeiiaikadaaRedund
namespace Go.Proofs.Ytpeloeiiaikadaa
open Go.RowKit
structure CtS where
  now : Int
  most : Int
  calm : Int
def ctA (s : CtS) : Array Value := #[.int .i64 s.now, .int .i64 s.most, .int .i64 s.calm]
structure CtOk (s : CtS) : Prop where
  n0 : 0 ≤ s.now
  n1 : s.now ≤ 16
  m0 : 0 ≤ s.most
  m1 : s.most ≤ 16
  c0 : 0 ≤ s.calm
  c1 : s.calm ≤ 7
def ctNext (s : CtS) (t : Int) : CtS := if s.now ≤ t then ⟨t, s.most, 0⟩ else if 8 ≤ s.calm + 1 then ⟨s.now - 1, s.most, 0⟩ else ⟨s.now, s.most, s.calm + 1⟩
theorem ctNext_ok (s : CtS) (t : Int) (ok : CtOk s) (h0 : 0 ≤ t) (h1 : t ≤ max s.most 0) : CtOk (ctNext s t) := by
  obtain ⟨n0, n1, m0, m1, c0, c1⟩ := ok
  unfold ctNext
  split
  · exact ⟨h0, by simp only; omega, m0, m1, by simp, by simp⟩
  · split
    · exact ⟨by simp only; omega, by simp only; omega, m0, m1, by simp, by simp⟩
    · exact ⟨n0, n1, m0, m1, by simp only; omega, by simp only; omega⟩
def CtAt (w : World) (p : Nat) (s : CtS) : Prop := w.heap[p]? = some (.cells (ctA s) 36 (0, 0))
theorem CtAt.lt {w : World} {p : Nat} {s : CtS} (h : CtAt w p s) : p < w.heap.size := (Array.getElem?_eq_some_iff.1 h).1
theorem CtAt.c0 {w : World} {p : Nat} {s : CtS} (h : CtAt w p s) : w.cell? ⟨p, 0, none⟩ = some (.int .i64 s.now) := by rw [cell_of_block h]; rfl
theorem CtAt.c1 {w : World} {p : Nat} {s : CtS} (h : CtAt w p s) : w.cell? ⟨p, 1, none⟩ = some (.int .i64 s.most) := by rw [cell_of_block h]; rfl
theorem CtAt.c2 {w : World} {p : Nat} {s : CtS} (h : CtAt w p s) : w.cell? ⟨p, 2, none⟩ = some (.int .i64 s.calm) := by rw [cell_of_block h]; rfl
theorem CtAt.fr {w : World} {p : Nat} {s : CtS} (h : CtAt w p s) (i : Nat) : w.frozen? ⟨p, i, none⟩ = false := frozen_of_row w p i _ _ h
theorem CtAt.s0 {w : World} {p : Nat} {s : CtS} (h : CtAt w p s) (x : Int) : CtAt (w.setCell ⟨p, 0, none⟩ (.int .i64 x)) p { s with now := x } := blk_set h 0 _
theorem CtAt.s2 {w : World} {p : Nat} {s : CtS} (h : CtAt w p s) (x : Int) : CtAt (w.setCell ⟨p, 2, none⟩ (.int .i64 x)) p { s with calm := x } := blk_set h 2 _
def NewPost (W : World) (most : Int) (e : Ending) (W' : World) : Prop := e = .returned (.tuple #[.pointer (some ⟨W.heap.size, 0, none⟩), .int .i64 0]) ∧ CtAt W' W.heap.size ⟨0, most, 0⟩ ∧ Below W.heap.size W W'
set_option maxHeartbeats 1000000 in
theorem s_new_ok (most : Int) (w : World) (h0 : 0 ≤ most) (h1 : most ≤ 16) :
    Calls Try.prog 10 #[.int .i64 most] w (NewPost w most) := by
  have hd : decide (most < 0) = false := decide_eq_false (by omega)
  have hd2 : decide (16 < most) = false := decide_eq_false (by omega)
  have hfin : CtAt (w.alloc (.cells (ctA ⟨0, most, 0⟩) 36)) w.heap.size ⟨0, most, 0⟩ := last_block0 _ _ _ rfl
  have hfinh := Lib.hid hfin
  clear hfin
  go_enter Try.func10, Try.ntmps10
  go_wp2_with fail
  go_ret2
  exact ⟨rfl, hfinh.out, (Below.refl _ _).alloc (Nat.le_refl _) _⟩
set_option maxHeartbeats 1000000 in
theorem s_new_no (most : Int) (w : World) (h : most < 0 ∨ 16 < most) :
    Calls Try.prog 10 #[.int .i64 most] w fun e w' => e = .returned (.tuple #[.pointer none, .int .i64 1]) ∧ w = w' := by
  rcases h with h | h
  · have hd : decide (most < 0) = true := decide_eq_true h
    go_enter Try.func10, Try.ntmps10
    go_wp2_with fail
    go_ret2
    exact ⟨rfl, rfl⟩
  · have hd : decide (most < 0) = false := decide_eq_false (by omega)
    have hd2 : decide (16 < most) = true := decide_eq_true h
    go_enter Try.func10, Try.ntmps10
    go_wp2_with fail
    go_ret2
    exact ⟨rfl, rfl⟩
attribute [local irreducible] tgZ
def CtPost (W : World) (p : Nat) (s : CtS) (e : Ending) (W' : World) : Prop := e = .returned (.int .i64 s.now) ∧ CtAt W' p s ∧ W.grownBy W' (some p)
set_option maxHeartbeats 1000000 in
theorem s_next (p : Nat) (s : CtS) (k loss : Int) (w : World) (hs : CtAt w p s) (ok : CtOk s) (ht : 0 ≤ tgZ k loss s.most) (ht2 : tgZ k loss s.most ≤ 16) :
    Calls Try.prog 12 #[.pointer (some ⟨p, 0, none⟩), .int .i64 k, .int .i64 loss] w (CtPost w p (ctNext s (tgZ k loss s.most))) := by
  obtain ⟨n0, n1, m0, m1, k0, k1⟩ := ok
  have c1 := hs.c1
  have hl := hs.lt
  have htg := Lib.hid (s_target k loss s.most w)
  generalize tgZ k loss s.most = t at *
  unfold ctNext
  have hsh := hide hs
  clear hs
  by_cases h1 : s.now ≤ t
  · rw [if_pos h1]
    go_enter Try.func12, Try.ntmps12
    go_wp2_with fail
    refine htg.out.mono ?_
    rintro e w1 ⟨rfl, hb1⟩
    have hs1 : CtAt w1 p s := (hb1.block p hl).trans hsh.out
    have d0 := hs1.c0
    have d2 := hs1.c2
    have f0 := hs1.fr 0
    have f2 := hs1.fr 2
    have hg := only_of_below hb1 (some p)
    have hs1h := hide hs1
    clear hs1 hb1 c1
    go_wp2_with fail
    go_ret
    exact ⟨rfl, (hs1h.out.s0 t).s2 0, only_set (only_set hg 0 _) 2 _⟩
  · rw [if_neg h1]
    by_cases h2 : 8 ≤ s.calm + 1
    · rw [if_pos h2]
      go_enter Try.func12, Try.ntmps12
      go_wp2_with fail
      refine htg.out.mono ?_
      rintro e w1 ⟨rfl, hb1⟩
      have hs1 : CtAt w1 p s := (hb1.block p hl).trans hsh.out
      have d0 := hs1.c0
      have d2 := hs1.c2
      have f0 := hs1.fr 0
      have f2 := hs1.fr 2
      have hg := only_of_below hb1 (some p)
      have hs1h := hide hs1
      clear hs1 hb1 c1
      go_wp2_with fail
      go_ret
      exact ⟨rfl, (hs1h.out.s0 (s.now - 1)).s2 0, only_set (only_set hg 0 _) 2 _⟩
    · rw [if_neg h2]
      go_enter Try.func12, Try.ntmps12
      go_wp2_with fail
      refine htg.out.mono ?_
      rintro e w1 ⟨rfl, hb1⟩
      have hs1 : CtAt w1 p s := (hb1.block p hl).trans hsh.out
      have d0 := hs1.c0
      have d2 := hs1.c2
      have f0 := hs1.fr 0
      have f2 := hs1.fr 2
      have hg := only_of_below hb1 (some p)
      have hs1h := hide hs1
      clear hs1 hb1 c1
      go_wp2_with fail
      go_ret
      exact ⟨rfl, hs1h.out.s2 (s.calm + 1), only_set hg 2 _⟩
theorem rct_info3 : (Try.prog.info? 31).map (·.size) = some 3 := by kernel_rfl
def RCtPost (W : World) (s : CtS) (e : Ending) (W' : World) : Prop := e = .returned (.agg (ctA s)) ∧ Below W.heap.size W W'
theorem ct_plain (a b c : Int) : Plain #[.int .i64 a, .int .i64 b, .int .i64 c] := by unfold Plain; simp [Value.oneCell']
theorem ct_size (a b c : Int) : (#[.int .i64 a, .int .i64 b, .int .i64 c] : Array Value).size = 3 := by rfl
theorem sct_info3 : (Try.prog.info? 36).map (·.size) = some 3 := by kernel_rfl
theorem ld_rc0 (v : Value) : Instr.loadAt 31 v = wLoad 31 v := rfl
theorem ld_rc (w : World) (b : Nat) : (wLoad 31 (.pointer (some ⟨b, 0, none⟩))).run Try.prog w = loadAns 3 w (blk w b) (wLoadRes Try.prog 31 b w) := run_wLoad Try.underlying31 rfl rct_info3 w b
theorem sto_rc0 (p x : Value) : Instr.storeAt 31 p x = wStore 31 p x := rfl
theorem sto_rc (w : World) (b : Nat) (C : Array Value) : (wStore 31 (.pointer (some ⟨b, 0, none⟩)) (.agg C)).run Try.prog w = storeAns 3 w b C (blk w b) (wStoreRes Try.prog 31 b C w) := run_wStore rct_info3 w b C
attribute [local irreducible] blk wLoad wLoadRes loadAns wStore wStoreRes storeAns Plain
attribute [local go_sem ↓] ld_rc0 sto_rc0
attribute [local go_sem] ld_rc sto_rc loadAns_some storeAns_some ct_size ct_plain blk_alloc_if blk_setRow_if blk_setCell_if blk_drew_at blk_drewN_at rowPut_some cellPut_some
set_option maxHeartbeats 1000000 in
theorem r_next (s : CtS) (k loss : Int) (w : World) (ok : CtOk s) (ht : 0 ≤ tgZ k loss s.most) (ht2 : tgZ k loss s.most ≤ 16) :
    Calls Try.prog 11 #[.agg (ctA s), .int .i64 k, .int .i64 loss] w (RCtPost w (ctNext s (tgZ k loss s.most))) := by
  obtain ⟨n0, n1, m0, m1, k0, k1⟩ := ok
  have htg := Lib.hid (fun W => r_target k loss s.most W)
  obtain ⟨now, most, calm⟩ := s
  simp only at *
  generalize tgZ k loss most = t at *
  obtain ⟨hq0, hq1, hsz, hB⟩ := two_boxes w (.cells #[.int .i64 now, .int .i64 most, .int .i64 calm] 31) (.cells #[.int .i64 0, .int .i64 0, .int .i64 0] 31)
  have key : ∀ r : CtS, ctNext ⟨now, most, calm⟩ t = r → Calls Try.prog 11 #[.agg #[.int .i64 now, .int .i64 most, .int .i64 calm], .int .i64 k, .int .i64 loss] w (RCtPost w r) := by
    intro r hr
    have hrh := Lib.hid hr
    clear hr
    go_enter Try.func11, Try.ntmps11
    go_upto_region 1 with (fail)
    generalize World.alloc (World.alloc w _) _ = W at *
    have c1 : W.cell? ⟨w.heap.size, 1, none⟩ = some (.int .i64 most) := by rw [cell_of_block hq0]; rfl
    have hq0h := Lib.hid hq0
    have hq1h := Lib.hid hq1
    have hBh := Lib.hid hB
    clear hq0 hq1 hB
    go_wp2_with fail
    refine (htg.out _).mono ?_
    rintro e w1 ⟨rfl, hb1⟩
    have q0 : w1.heap[w.heap.size]? = some (.cells #[.int .i64 now, .int .i64 most, .int .i64 calm] 31 (0, 0)) := (hb1.block _ (by omega)).trans hq0h.out
    have q1 : w1.heap[w.heap.size + 1]? = some (.cells #[.int .i64 0, .int .i64 0, .int .i64 0] 31 (0, 0)) := (hb1.block _ (by omega)).trans hq1h.out
    have hB1 := hBh.out.trans (hb1.mono (by omega))
    have d0 : w1.cell? ⟨w.heap.size, 0, none⟩ = some (.int .i64 now) := by rw [cell_of_block q0]; rfl
    have d2 : w1.cell? ⟨w.heap.size, 2, none⟩ = some (.int .i64 calm) := by rw [cell_of_block q0]; rfl
    have f0 : w1.frozen? ⟨w.heap.size, 0, none⟩ = false := frozen_of_row w1 _ _ _ _ q0
    have f2 : w1.frozen? ⟨w.heap.size, 2, none⟩ = false := frozen_of_row w1 _ _ _ _ q0
    have b0 := blk_of q0
    have b1 := blk_of q1
    have q1h := Lib.hid q1
    have hs1 := Lib.hid (fun (x : World) (A : Array Value) (hx : x.heap[w.heap.size + 1]? = some (.cells #[.int .i64 0, .int .i64 0, .int .i64 0] 31 (0, 0))) => setRow_heap x (w.heap.size + 1) _ A _ _ hx)
    clear q0 q1 hb1 c1 hq0h hq1h hBh
    by_cases h1 : now ≤ t
    · go_wp2_with fail
      refine bodyPost_ret (v := .agg _) (results_cell_row rfl _ _ (w.heap.size + 1) 31 _ (0, 0) _ rfl (hs1.out _ _ ((heap_setCell_other _ _ _ _ (by simp)).trans ((heap_setCell_other _ _ _ _ (by simp)).trans q1h.out))) Try.underlying31 rfl rct_info3) rfl ⟨?_, below_setRow ((hB1.setCell (p := ⟨w.heap.size, 0, none⟩) (Nat.le_refl _) _).setCell (p := ⟨w.heap.size, 2, none⟩) (Nat.le_refl _) _) (by omega) _⟩
      rw [← hrh.out]; unfold ctNext; rw [if_pos h1]; rfl
    · by_cases h2 : 8 ≤ calm + 1
      · go_wp2_with fail
        refine bodyPost_ret (v := .agg _) (results_cell_row rfl _ _ (w.heap.size + 1) 31 _ (0, 0) _ rfl (hs1.out _ _ ((heap_setCell_other _ _ _ _ (by simp)).trans ((heap_setCell_other _ _ _ _ (by simp)).trans ((heap_setCell_other _ _ _ _ (by simp)).trans q1h.out)))) Try.underlying31 rfl rct_info3) rfl ⟨?_, below_setRow (((hB1.setCell (p := ⟨w.heap.size, 2, none⟩) (Nat.le_refl _) _).setCell (p := ⟨w.heap.size, 0, none⟩) (Nat.le_refl _) _).setCell (p := ⟨w.heap.size, 2, none⟩) (Nat.le_refl _) _) (by omega) _⟩
        rw [← hrh.out]; unfold ctNext; simp only; rw [if_neg (by omega), if_pos (by omega)]; rfl
      · go_wp2_with fail
        refine bodyPost_ret (v := .agg _) (results_cell_row rfl _ _ (w.heap.size + 1) 31 _ (0, 0) _ rfl (hs1.out _ _ ((heap_setCell_other _ _ _ _ (by simp)).trans q1h.out)) Try.underlying31 rfl rct_info3) rfl ⟨?_, below_setRow (hB1.setCell (p := ⟨w.heap.size, 2, none⟩) (Nat.le_refl _) _) (by omega) _⟩
        rw [← hrh.out]; unfold ctNext; simp only; rw [if_neg (by omega), if_neg (by omega)]; rfl
  exact key _ rfl
end Go.Proofs.Ytpeloeiiaikadaa
