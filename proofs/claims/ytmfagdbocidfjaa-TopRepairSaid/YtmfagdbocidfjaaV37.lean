import Derived.Test.YtmfagdbocidfjaaV36
import Derived.Test.YtmfagdbocidfjaaV27
import Derived.Test.YtmfagdbocidfjaaV30
/- The window of groups: does a shard fit, did it come. Conditions: what the blocks hold. -/
namespace Go.Proofs.Ytmfagdbocidfjaa
open Go.RowKit
set_option maxRecDepth 100000 in
set_option maxHeartbeats 4000000 in
theorem re_place_old (x p base fr : Nat) (rdy : Value) (d m : Int) (q : Nat → Value) (w : World) (h : WinAt w x p (base + 1) fr rdy d m q) (hb : base < 32) :
    Calls Try.prog 56 #[.pointer (some ⟨x, 0, none⟩), .int .u32 (base : Nat)] w (fun e w' => e = .returned (.tuple #[.pointer none, .int .i64 90]) ∧ w = w') := by
  obtain ⟨C, h1, h2⟩ := h
  have c1 := (cell_of_block h1).trans h2.2.2.1
  have hbe : behindZ (base : Int) ((base + 1 : Nat) : Int) = -1 := by unfold behindZ; rw [show ((base : Int) - ((base + 1 : Nat) : Int)) = -1 by omega]; decide
  have hk := Lib.hid (w_behind (base : Int) ((base + 1 : Nat) : Int) w)
  rw [hbe] at hk
  obtain ⟨b1, hb1⟩ : ∃ b1, base + 1 = b1 := ⟨_, rfl⟩
  rw [hb1] at c1 hk
  clear h1 h2 hbe hb1
  go_enter Try.func56, Try.ntmps56
  go_wp2_with fail
  refine hk.out.mono ?_
  rintro _ w2 ⟨rfl, rfl⟩
  go_wp2_with fail
  go_ret2
  exact ⟨rfl, rfl⟩
/-- a part's cells at a place of a block -/
def PartAt (w : World) (x o : Nat) (q : Nat → Value) : Prop := ∀ j, j < 7 → w.cell? ⟨x, o + j, none⟩ = some (q j)
set_option maxRecDepth 100000 in
theorem WinAt.part {w : World} {x p base fr : Nat} {rdy : Value} {d m : Int} {q : Nat → Value} (h : WinAt w x p base fr rdy d m q) (hb : base < 32) : PartAt w x (3 + base * 7) q := fun j hj => by
  obtain ⟨C, h1, h2⟩ := h
  have := h2.2.2.2.2.2.2.2 base j hb hj
  rw [if_pos rfl] at this
  exact (cell_of_block h1).trans this
set_option maxRecDepth 100000 in
theorem PartAt.below {w w' : World} {x o : Nat} {q : Nat → Value} (h : PartAt w x o q) (hb : Below w.heap.size w w') : PartAt w' x o q := fun j hj => (hb.cell (cell_block_lt (h j hj))).trans (h j hj)
/-- the part of which n shards came -/
def pq (fi K m : Nat) (sh : Value) : Nat → Value
  | 0 => .bool true
  | 1 => .int .u32 (fi : Nat)
  | 2 => .int .i64 (K : Nat)
  | 3 => .int .i64 (m : Nat)
  | 4 => sh
  | 5 => .slice none 0 0
  | _ => .bool false
set_option maxRecDepth 100000 in
set_option maxHeartbeats 4000000 in
theorem re_fits_new (x o : Nat) (no fi : Int) (K m i g c : Nat) (w : World) (h : PartAt w x o pz) : Calls Try.prog 57 #[.pointer (some ⟨x, o, none⟩), dgV no fi K m i g c] w (BoolB true w) := by
  obtain ⟨kd, hkd⟩ : ∃ kd, dgK K i = kd := ⟨_, rfl⟩
  unfold dgV
  rw [hkd]
  clear hkd
  obtain ⟨W, hW⟩ : ∃ W, w.alloc (.cells #[.int .i64 kd, .int .u32 0, .int .u32 0, .int .i64 0, .int .u32 0, .int .u32 no, .int .u32 fi, .int .i64 (K : Nat), .int .i64 (m : Nat), .int .i64 (i : Nat), .slice (some ⟨g, 0, none⟩) 2 c] 73) = W := ⟨_, rfl⟩
  have hB : Below w.heap.size w W := hW ▸ (Below.refl _ _).alloc (Nat.le_refl _) _
  have hWh := Lib.hid hW
  have c0 : W.cell? ⟨x, o, none⟩ = some (.bool false) := (h.below hB) 0 (by omega)
  have hBh := Lib.hid hB
  clear h hB hW
  go_enter Try.func57, Try.ntmps57
  go_upto_region 1 with (fail)
  rw [hWh.out]
  go_quiet (fail)
  go_wp2_with fail
  go_ret
  exact ⟨rfl, below_drewN hBh.out _⟩
set_option maxRecDepth 100000 in
set_option maxHeartbeats 4000000 in
theorem re_fits (x o : Nat) (no fi K m i g c : Nat) (sh : Value) (w : World) (h : PartAt w x o (pq fi K m sh)) : Calls Try.prog 57 #[.pointer (some ⟨x, o, none⟩), dgV (no : Nat) (fi : Nat) K m i g c] w (BoolB true w) := by
  obtain ⟨kd, hkd⟩ : ∃ kd, dgK K i = kd := ⟨_, rfl⟩
  unfold dgV
  rw [hkd]
  clear hkd
  obtain ⟨W, hW⟩ : ∃ W, w.alloc (.cells #[.int .i64 kd, .int .u32 0, .int .u32 0, .int .i64 0, .int .u32 0, .int .u32 (no : Nat), .int .u32 (fi : Nat), .int .i64 (K : Nat), .int .i64 (m : Nat), .int .i64 (i : Nat), .slice (some ⟨g, 0, none⟩) 2 c] 73) = W := ⟨_, rfl⟩
  have hB : Below w.heap.size w W := hW ▸ (Below.refl _ _).alloc (Nat.le_refl _) _
  have hblk : W.heap[w.heap.size]? = some (.cells #[.int .i64 kd, .int .u32 0, .int .u32 0, .int .i64 0, .int .u32 0, .int .u32 (no : Nat), .int .u32 (fi : Nat), .int .i64 (K : Nat), .int .i64 (m : Nat), .int .i64 (i : Nat), .slice (some ⟨g, 0, none⟩) 2 c] 73 (0, 0)) := by rw [← hW]; exact Array.getElem?_push_size (xs := w.heap)
  obtain ⟨_, _, _, _, _, _, k6, k7, k8, _, _⟩ := dg_cl hblk
  have hWh := Lib.hid hW
  have c0 : W.cell? ⟨x, o, none⟩ = some (.bool true) := (h.below hB) 0 (by omega)
  have c1 : W.cell? ⟨x, o + 1, none⟩ = some (.int .u32 (fi : Nat)) := (h.below hB) 1 (by omega)
  have c2 : W.cell? ⟨x, o + 2, none⟩ = some (.int .i64 (K : Nat)) := (h.below hB) 2 (by omega)
  have c3 : W.cell? ⟨x, o + 3, none⟩ = some (.int .i64 (m : Nat)) := (h.below hB) 3 (by omega)
  have hBh := Lib.hid hB
  clear h hB hW hblk
  go_enter Try.func57, Try.ntmps57
  go_upto_region 1 with (fail)
  rw [hWh.out]
  go_quiet (fail)
  go_wp2_with fail
  go_ret
  exact ⟨rfl, below_drewN hBh.out _⟩
end Go.Proofs.Ytmfagdbocidfjaa

/- The window of groups: did a shard come. Conditions: what the blocks hold. -/
namespace Go.Proofs.Ytmfagdbocidfjaa
open Go.RowKit
def HasRel (w : World) (n : Nat) (v12 : Value) (wr : World) : Prop := ∃ j : Nat, j ≤ n ∧ v12 = .int .i64 (j : Nat) ∧ Below w.heap.size w wr
set_option maxRecDepth 100000 in
set_option maxHeartbeats 4000000 in
theorem re_has (x o n cap i : Nat) (s : Option Addr) (I G cc : Nat → Nat) (w : World) (h4 : w.cell? ⟨x, o + 4, none⟩ = some (.slice s n cap)) (hs : ∀ j, j < n → ∃ b off, s = some ⟨b, off, none⟩ ∧ SdC b off n I G cc w) (hn : n ≤ 255) (hI : ∀ j, j < n → I j < i) :
    Calls Try.prog 58 #[.pointer (some ⟨x, o, none⟩), .int .i64 (i : Nat)] w (BoolB false w) := by
  have hsh := Lib.hid hs
  have hIh := Lib.hid hI
  clear hs hI
  go_enter Try.func58, Try.ntmps58
  go_upto_region 2 with (fail)
  clear h4
  go_loopw [12] (fun v12 wr => HasRel w n v12 wr) (fun v12 _ => n - (intOf v12).toNat)
  case atStart => exact ⟨0, by omega, rfl, Below.refl _ _⟩
  case round =>
    obtain ⟨j, hj, rfl, hB⟩ := hrel
    have hBh := Lib.hid hB
    clear hB
    by_cases hlt : j < n
    · have i1 : (j : Int) < (n : Int) := by omega
      obtain ⟨b, off, rfl, hsc⟩ := hsh.out j hlt
      obtain ⟨e0, e1⟩ := (hsc.below hBh.out) j hlt
      have hne : Hid (I j < i) := hide (hIh.out j hlt)
      clear hsc
      go_upto_region 4 with (fail)
      obtain ⟨W, hW⟩ : ∃ W, wr.alloc (.cells #[.int .i64 (I j : Nat), .slice (some ⟨G j, 0, none⟩) 2 (cc j)] 139) = W := ⟨_, rfl⟩
      have hblk : W.heap[wr.heap.size]? = some (.cells #[.int .i64 (I j : Nat), .slice (some ⟨G j, 0, none⟩) 2 (cc j)] 139 (0, 0)) := by rw [← hW]; exact Array.getElem?_push_size (xs := wr.heap)
      have b0 := (cell_of_block hblk).trans (show #[Value.int .i64 (I j : Nat), .slice (some ⟨G j, 0, none⟩) 2 (cc j)][0]? = some (.int .i64 (I j : Nat)) from rfl)
      have g0 : ((I j : Int) == (i : Int)) = false := by have := hne.out; simp; omega
      have g1 : decide ((I j : Int) = (i : Int)) = false := decide_eq_false (by have := hne.out; omega)
      have g2 : ¬ (I j = i) := by have := hne.out; omega
      have iw2 : IntKind.i64.wrap ((j : Int) + 1) = ((j + 1 : Nat) : Int) := by rw [IntWalk.i64_in _ (by omega)]; omega
      have hR : Hid (HasRel w n (.int .i64 ((j + 1 : Nat) : Int)) W) := hide ⟨j + 1, by omega, rfl, hW ▸ hBh.out.alloc hBh.out.size _⟩
      have hWh := Lib.hid hW
      clear hblk hW e0 e1
      rw [hWh.out]
      go_wp2_with fail
      refine ⟨?_, ?_⟩
      rotate_left
      · simp [intOf]; omega
      first
        | exact hR.out
        | (repeat (apply Exists.intro)
           exact ⟨hR.out, rfl⟩)
    · obtain rfl : j = n := by omega
      have i1 : decide ((j : Int) < (j : Int)) = false := by simp
      go_wp2_with fail
      go_ret
      exact ⟨rfl, hBh.out⟩
end Go.Proofs.Ytmfagdbocidfjaa

/- A new window of groups. Conditions: none. -/
namespace Go.Proofs.Ytmfagdbocidfjaa
open Go.RowKit
def winc (v : Value) (i : Nat) : Value := if i = 0 then v else if i = 1 then .int .u32 0 else if i = 2 then .int .i64 0 else if i < 227 then pz ((i - 3) % 7) else if i = 227 then .slice none 0 0 else .int .i64 0
def winZ (v : Value) : Array Value := Array.ofFn (n := 230) (fun i => winc v i)
set_option maxRecDepth 100000 in
theorem winZ_get (v : Value) (i : Nat) (h : i < 230) : (winZ v)[i]? = some (winc v i) := by unfold winZ; simp [h]
set_option maxRecDepth 100000 in
theorem winZ_win (p : Nat) : WinC (winZ (.pointer (some ⟨p, 0, none⟩))) p 0 0 (.slice none 0 0) 0 0 pz := by
  refine ⟨by unfold winZ; simp, (winZ_get _ 0 (by omega)).trans rfl, (winZ_get _ 1 (by omega)).trans rfl, (winZ_get _ 2 (by omega)).trans rfl, (winZ_get _ 227 (by omega)).trans rfl, (winZ_get _ 228 (by omega)).trans rfl, (winZ_get _ 229 (by omega)).trans rfl, fun k j hk hj => ?_⟩
  rw [winZ_get _ _ (by omega)]
  unfold winc
  rw [if_neg (by omega), if_neg (by omega), if_neg (by omega), if_pos (by omega), show (3 + k * 7 + j - 3) % 7 = j by omega]
  split <;> rfl
def nBuild (parts : Array (Nat × Value)) : Sem Value := Instr.build 117 parts
set_option maxRecDepth 100000 in
theorem nBuild_of (parts : Array (Nat × Value)) : Instr.build 117 parts = nBuild parts := by unfold nBuild; rfl
set_option maxRecDepth 100000 in
set_option maxHeartbeats 4000000 in
theorem nBuild_0 (p : Nat) (w : World) : (nBuild #[(0, .pointer (some ⟨p, 0, none⟩))]).run Try.prog w = .ok (.agg (winZ (.pointer (some ⟨p, 0, none⟩)))) w := by kernel_rfl
attribute [local irreducible] winZ nBuild
attribute [local go_sem ↓] nBuild_of
attribute [local go_sem] nBuild_0
def NewWPost (w : World) (p : Nat) (e : Ending) (w' : World) : Prop := e = .returned (.pointer (some ⟨w.heap.size, 0, none⟩)) ∧ WinAt w' w.heap.size p 0 0 (.slice none 0 0) 0 0 pz ∧ Below w.heap.size w w'
set_option maxRecDepth 100000 in
set_option maxHeartbeats 4000000 in
theorem re_new (p : Nat) (w : World) : Calls Try.prog 20 #[.pointer (some ⟨p, 0, none⟩)] w (NewWPost w p) := by
  have hend : Hid (NewWPost w p (.returned (.pointer (some ⟨w.heap.size, 0, none⟩))) (w.alloc (.cells (winZ (.pointer (some ⟨p, 0, none⟩))) 117))) := hide ⟨rfl, ⟨_, Array.getElem?_push_size (xs := w.heap), winZ_win p⟩, (Below.refl _ _).alloc (Nat.le_refl _) _⟩
  go_enter Try.func20, Try.ntmps20
  go_wp2_with fail
  go_ret
  exact hend.out
end Go.Proofs.Ytmfagdbocidfjaa

/- The window of groups: nothing is told as long as the next group isn't whole. Conditions: what the blocks hold. -/
namespace Go.Proofs.Ytmfagdbocidfjaa
open Go.RowKit
set_option maxRecDepth 100000 in
set_option maxHeartbeats 4000000 in
theorem re_tell_no (x base o : Nat) (w : World) (h1 : w.cell? ⟨x, 1, none⟩ = some (.int .u32 (base : Nat))) (hb : base ≤ 32) (ho : base % 32 = o) (hd : w.cell? ⟨x, 3 + o * 7 + 6, none⟩ = some (.bool false)) :
    Calls Try.prog 60 #[.pointer (some ⟨x, 0, none⟩)] w (fun e w' => e = .returned (.tuple #[]) ∧ Below w.heap.size w w') := by
  have hm : (base : Int).tmod 32 = (o : Int) := by rw [Int.tmod_eq_emod_of_nonneg (by omega)]; omega
  have hm2 : IntKind.u32.wrap (o : Int) = (o : Int) := IntWalk.u32_in _ (by omega)
  have hm3 : (o : Int) < 32 := by omega
  have h1h := Lib.hid h1
  have hdh := Lib.hid hd
  clear h1 hd hb ho
  go_enter Try.func60, Try.ntmps60
  go_upto_region 0 with (fail)
  go_loopw [2] (fun _ wr => Below w.heap.size w wr) (fun _ _ => 0)
  case atStart => exact Below.refl _ _
  case round =>
    have c1 : wr.cell? ⟨x, 1, none⟩ = some (.int .u32 (base : Nat)) := (hrel.cell (cell_block_lt h1h.out)).trans h1h.out
    have c2 : wr.cell? ⟨x, 3 + o * 7 + 6, none⟩ = some (.bool false) := (hrel.cell (cell_block_lt hdh.out)).trans hdh.out
    have hBh := Lib.hid hrel
    clear hrel
    go_upto_region 0 with (fail)
    go_quiet (fail)
    go_upto_region 1 with (fail)
    go_quiet (fail)
    go_wp2_with fail
    (try simp only [Exit.inBlock, Exit.then])
    refine bodyPost_ret (results_none rfl _ _ _) rfl ?_
    exact ⟨rfl, below_drewN (below_drewN hBh.out _) _⟩
set_option maxRecDepth 100000 in
set_option maxHeartbeats 4000000 in
theorem re_mend_no (x y o n cap K : Nat) (s : Option Addr) (w : World) (h2 : w.cell? ⟨y, o + 2, none⟩ = some (.int .i64 (K : Nat))) (h4 : w.cell? ⟨y, o + 4, none⟩ = some (.slice s n cap)) (hn : n < K) :
    Calls Try.prog 59 #[.pointer (some ⟨x, 0, none⟩), .pointer (some ⟨y, o, none⟩)] w (fun e w' => e = .returned (.tuple #[]) ∧ Below w.heap.size w w') := by
  have d0 : (n : Int) < (K : Int) := by omega
  go_enter Try.func59, Try.ntmps59
  go_upto_region 0 with (fail)
  go_quiet (fail)
  go_wp2_with fail
  (try simp only [Exit.inBlock, Exit.then])
  refine bodyPost_ret (results_none rfl _ _ _) rfl ?_
  exact ⟨rfl, below_drewN (Below.refl _ _) _⟩
end Go.Proofs.Ytmfagdbocidfjaa

/- The window of groups: single cells written; a window with what it owns. Lemmas alone. -/
namespace Go.Proofs.Ytmfagdbocidfjaa
open Go.RowKit
section
variable {C : Array Value} {p base fr : Nat} {rdy : Value} {d m : Int} {q : Nat → Value}
set_option maxRecDepth 100000 in
theorem WinC.congr (h : WinC C p base fr rdy d m q) {q' : Nat → Value} (e : ∀ j, j < 7 → q j = q' j) : WinC C p base fr rdy d m q' := by
  obtain ⟨h1, h2, h3, h4, h5, h6, h7, h8⟩ := h
  refine ⟨h1, h2, h3, h4, h5, h6, h7, fun k j hk hj => ?_⟩
  rw [h8 k j hk hj, e j hj]
set_option maxRecDepth 100000 in
theorem WinC.put (h : WinC C p base fr rdy d m q) (hb : base < 32) (i : Nat) (hi : i < 7) (v : Value) : WinC (C.setIfInBounds (3 + base * 7 + i) v) p base fr rdy d m (fun j => if j = i then v else q j) := by
  obtain ⟨h1, h2, h3, h4, h5, h6, h7, h8⟩ := h
  refine ⟨by simp [h1], ?_, ?_, ?_, ?_, ?_, ?_, fun k j hk hj => ?_⟩
  · rw [Array.getElem?_setIfInBounds, if_neg (by omega)]; exact h2
  · rw [Array.getElem?_setIfInBounds, if_neg (by omega)]; exact h3
  · rw [Array.getElem?_setIfInBounds, if_neg (by omega)]; exact h4
  · rw [Array.getElem?_setIfInBounds, if_neg (by omega)]; exact h5
  · rw [Array.getElem?_setIfInBounds, if_neg (by omega)]; exact h6
  · rw [Array.getElem?_setIfInBounds, if_neg (by omega)]; exact h7
  · rw [Array.getElem?_setIfInBounds]
    by_cases e : k = base
    · subst e
      by_cases e2 : j = i
      · subst e2
        rw [if_pos rfl, if_pos (by omega)]
        simp
      · rw [if_neg (by omega), h8 k j hk hj, if_pos rfl, if_pos rfl]
        simp [e2]
    · rw [if_neg (by omega), h8 k j hk hj, if_neg e, if_neg e]
set_option maxRecDepth 100000 in
theorem WinC.mended (h : WinC C p base fr rdy d m q) (m' : Int) : WinC (C.setIfInBounds 229 (.int .i64 m')) p base fr rdy d m' q := by
  obtain ⟨h1, h2, h3, h4, h5, h6, h7, h8⟩ := h
  refine ⟨by simp [h1], ?_, ?_, ?_, ?_, ?_, ?_, fun k j hk hj => ?_⟩
  · rw [Array.getElem?_setIfInBounds, if_neg (by omega)]; exact h2
  · rw [Array.getElem?_setIfInBounds, if_neg (by omega)]; exact h3
  · rw [Array.getElem?_setIfInBounds, if_neg (by omega)]; exact h4
  · rw [Array.getElem?_setIfInBounds, if_neg (by omega)]; exact h5
  · rw [Array.getElem?_setIfInBounds, if_neg (by omega)]; exact h6
  · rw [Array.getElem?_setIfInBounds, if_pos rfl, if_pos (by omega)]
  · rw [Array.getElem?_setIfInBounds, if_neg (by omega)]; exact h8 k j hk hj
set_option maxRecDepth 100000 in
theorem WinC.frames (h : WinC C p base fr rdy d m q) (f' : Nat) : WinC (C.setIfInBounds 2 (.int .i64 (f' : Nat))) p base f' rdy d m q := by
  obtain ⟨h1, h2, h3, h4, h5, h6, h7, h8⟩ := h
  refine ⟨by simp [h1], ?_, ?_, ?_, ?_, ?_, ?_, fun k j hk hj => ?_⟩
  · rw [Array.getElem?_setIfInBounds, if_neg (by omega)]; exact h2
  · rw [Array.getElem?_setIfInBounds, if_neg (by omega)]; exact h3
  · rw [Array.getElem?_setIfInBounds, if_pos rfl, if_pos (by omega)]
  · rw [Array.getElem?_setIfInBounds, if_neg (by omega)]; exact h5
  · rw [Array.getElem?_setIfInBounds, if_neg (by omega)]; exact h6
  · rw [Array.getElem?_setIfInBounds, if_neg (by omega)]; exact h7
  · rw [Array.getElem?_setIfInBounds, if_neg (by omega)]; exact h8 k j hk hj
set_option maxRecDepth 100000 in
/-- the group in hand is as new: another one may be next -/
theorem WinC.next (h : WinC C p base fr rdy d m pz) (b' : Nat) : WinC (C.setIfInBounds 1 (.int .u32 (b' : Nat))) p b' fr rdy d m pz := by
  obtain ⟨h1, h2, h3, h4, h5, h6, h7, h8⟩ := h
  refine ⟨by simp [h1], ?_, ?_, ?_, ?_, ?_, ?_, fun k j hk hj => ?_⟩
  · rw [Array.getElem?_setIfInBounds, if_neg (by omega)]; exact h2
  · rw [Array.getElem?_setIfInBounds, if_pos rfl, if_pos (by omega)]
  · rw [Array.getElem?_setIfInBounds, if_neg (by omega)]; exact h4
  · rw [Array.getElem?_setIfInBounds, if_neg (by omega)]; exact h5
  · rw [Array.getElem?_setIfInBounds, if_neg (by omega)]; exact h6
  · rw [Array.getElem?_setIfInBounds, if_neg (by omega)]; exact h7
  · rw [Array.getElem?_setIfInBounds, if_neg (by omega), h8 k j hk hj]
    split <;> split <;> rfl
end
section
variable {w w' : World} {x p base fr : Nat} {rdy : Value} {d m : Int} {q : Nat → Value}
set_option maxRecDepth 100000 in
theorem WinAt.congr (h : WinAt w x p base fr rdy d m q) {q' : Nat → Value} (e : ∀ j, j < 7 → q j = q' j) : WinAt w x p base fr rdy d m q' := by
  obtain ⟨C, h1, h2⟩ := h
  exact ⟨C, h1, h2.congr e⟩
set_option maxRecDepth 100000 in
theorem WinAt.put (h : WinAt w x p base fr rdy d m q) (hb : base < 32) (i : Nat) (hi : i < 7) (v : Value) : WinAt (w.setCell ⟨x, 3 + base * 7 + i, none⟩ v) x p base fr rdy d m (fun j => if j = i then v else q j) := by
  obtain ⟨C, h1, h2⟩ := h
  exact ⟨_, blk_set h1 _ _, h2.put hb i hi v⟩
set_option maxRecDepth 100000 in
theorem WinAt.mended (h : WinAt w x p base fr rdy d m q) (m' : Int) : WinAt (w.setCell ⟨x, 229, none⟩ (.int .i64 m')) x p base fr rdy d m' q := by
  obtain ⟨C, h1, h2⟩ := h
  exact ⟨_, blk_set h1 _ _, h2.mended m'⟩
set_option maxRecDepth 100000 in
theorem WinAt.frames (h : WinAt w x p base fr rdy d m q) (f' : Nat) : WinAt (w.setCell ⟨x, 2, none⟩ (.int .i64 (f' : Nat))) x p base f' rdy d m q := by
  obtain ⟨C, h1, h2⟩ := h
  exact ⟨_, blk_set h1 _ _, h2.frames f'⟩
set_option maxRecDepth 100000 in
theorem WinAt.ready (h : WinAt w x p base fr rdy d m q) (v : Value) : WinAt (w.setCell ⟨x, 227, none⟩ v) x p base fr v d m q := by
  obtain ⟨C, h1, h2⟩ := h
  exact ⟨_, blk_set h1 _ _, h2.ready v⟩
set_option maxRecDepth 100000 in
theorem WinAt.next (h : WinAt w x p base fr rdy d m pz) (b' : Nat) : WinAt (w.setCell ⟨x, 1, none⟩ (.int .u32 (b' : Nat))) x p b' fr rdy d m pz := by
  obtain ⟨C, h1, h2⟩ := h
  exact ⟨_, blk_set h1 _ _, h2.next b'⟩
set_option maxRecDepth 100000 in
theorem WinAt.kept (h : WinAt w x p base fr rdy d m q) (e : w'.heap[x]? = w.heap[x]?) : WinAt w' x p base fr rdy d m q := by
  obtain ⟨C, h1, h2⟩ := h
  exact ⟨C, e.trans h1, h2⟩
set_option maxRecDepth 100000 in
theorem WinAt.lt (h : WinAt w x p base fr rdy d m q) : x < w.heap.size := by
  obtain ⟨C, h1, h2⟩ := h
  exact (Array.getElem?_eq_some_iff.1 h1).1
set_option maxRecDepth 100000 in
theorem WinAt.below (h : WinAt w x p base fr rdy d m q) (hb : Below w.heap.size w w') : WinAt w' x p base fr rdy d m q := h.kept (hb.block x h.lt)
set_option maxRecDepth 100000 in
theorem WinAt.cells (h : WinAt w x p base fr rdy d m q) : w.cell? ⟨x, 0, none⟩ = some (.pointer (some ⟨p, 0, none⟩)) ∧ w.cell? ⟨x, 1, none⟩ = some (.int .u32 (base : Nat)) ∧ w.cell? ⟨x, 2, none⟩ = some (.int .i64 (fr : Nat)) ∧ w.cell? ⟨x, 227, none⟩ = some rdy ∧ w.cell? ⟨x, 229, none⟩ = some (.int .i64 m) := by
  obtain ⟨C, h1, h2⟩ := h
  obtain ⟨_, k0, k1, k2, k3, _, k5, _⟩ := h2
  exact ⟨(cell_of_block h1).trans k0, (cell_of_block h1).trans k1, (cell_of_block h1).trans k2, (cell_of_block h1).trans k3, (cell_of_block h1).trans k5⟩
set_option maxRecDepth 100000 in
theorem WinAt.frozen (h : WinAt w x p base fr rdy d m q) (k : Nat) : w.frozen? ⟨x, k, none⟩ = false := by
  obtain ⟨C, h1, h2⟩ := h
  exact frozen_of_row w x k _ _ h1
set_option maxRecDepth 100000 in
theorem WinAt.type (h : WinAt w x p base fr rdy d m q) : ∃ C, w.heap[x]? = some (.cells C 117 (0, 0)) := by
  obtain ⟨C, h1, _⟩ := h
  exact ⟨C, h1⟩
set_option maxRecDepth 100000 in
/-- what lies in blocks of another type than the one that was written stays -/
theorem VAt.other {W W' : World} {lo sz n : Nat} {T : TypeId} {v : Value} {xs : List Value} {row : Option Nat} (h : VAt W lo T sz v n xs) (hg : W.grownBy W' row) (hr : ∀ b, row = some b → ∃ C T', W.heap[b]? = some (.cells C T' (0, 0)) ∧ T' ≠ T) : VAt W' lo T sz v n xs := h.kept (fun b hb => by
  obtain ⟨_, C, hC⟩ := h.lt b hb
  refine hg.block b (h.blt b hb) (fun e => ?_)
  obtain ⟨C', T', h1, h2⟩ := hr b e.symm
  rw [hC] at h1
  injection h1 with h1
  injection h1 with _ h3
  exact h2 h3.symm)
set_option maxRecDepth 100000 in
theorem BRow.other {W W' : World} {g n : Nat} {f : Nat → Nat} {row : Option Nat} (h : BRow W g n f) (hg : W.grownBy W' row) (hr : ∀ b, row = some b → ∃ C T', W.heap[b]? = some (.cells C T' (0, 0)) ∧ T' ≠ 5) : BRow W' g n f := h.stay (hg.block g h.lt (fun e => by
  obtain ⟨C, T', h1, h2⟩ := hr g e.symm
  obtain ⟨D, h3, _⟩ := h
  rw [h1] at h3
  injection h3 with h3
  injection h3 with _ h4
  exact h2 h4))
set_option maxRecDepth 100000 in
theorem SdAt.other {W W' : World} {lo n : Nat} {v : Value} {I G c : Nat → Nat} {V : Nat → Nat → Nat} {row : Option Nat} (h : SdAt W lo v n I G c V) (hg : W.grownBy W' row) (hr : ∀ b, row = some b → ∃ C T', W.heap[b]? = some (.cells C T' (0, 0)) ∧ T' ≠ 5 ∧ T' ≠ 139) : SdAt W' lo v n I G c V :=
  ⟨h.1.other hg (fun b hb => by obtain ⟨C, T', h1, _, h3⟩ := hr b hb; exact ⟨C, T', h1, h3⟩), fun j hj => ⟨(h.2 j hj).1.other hg (fun b hb => by obtain ⟨C, T', h1, h2, _⟩ := hr b hb; exact ⟨C, T', h1, h2⟩), (h.2 j hj).2⟩⟩
end
end Go.Proofs.Ytmfagdbocidfjaa

/- Any k rows of the code are invertible, and the inverse brings the data back. Plain. -/
namespace Go.Proofs.Ytmfagdbocidfjaa
set_option maxRecDepth 100000 in
/-- a matrix that takes only nought to nought finds its pivots -/
theorem ker_pivots (F : Nat → Nat → Nat) (hF : Bd2 F) (n : Nat) (hker : ∀ v : Nat → Nat → Nat, Bd2 v → (∀ r, r < n → mlF F v n r 0 = 0) → ∀ c, c < n → v c 0 = 0) (i : Nat) (hi : i < n) : pvF (ivS F n i).1 i n i < n := by
  induction i using Nat.strongRecOn with
  | ind i ih =>
  have hp : ∀ j, j < i → pvF (ivS F n j).1 j n j < n := fun j hj => ih j hj (by omega)
  refine Decidable.byContradiction fun hno => ?_
  obtain ⟨p1, p2, p3, p4⟩ := pv_facts (ivS F n i).1 i n i (by omega)
  have pe : pvF (ivS F n i).1 i n i = n := by omega
  rw [pe] at p4
  have hcols := fun r j hr hj => iv_cols _ hF n i hp (by omega) r j hr hj
  obtain ⟨G, hG, hGE⟩ := iv_left _ hF n i hp (by omega)
  have hprod := fun r c hr => iv_prod _ hF n i r c hr hp (by omega)
  obtain ⟨hM, hE⟩ := iv_bd _ hF n i
  generalize (ivS F n i).1 = M at *
  generalize (ivS F n i).2 = E at *
  obtain ⟨v, hv⟩ : ∃ v : Nat → Nat → Nat, ∀ c z, v c z = if c < i then M c i else if c = i then 1 else 0 := ⟨_, fun _ _ => rfl⟩
  have hvb : Bd2 v := fun c z => by rw [hv]; split; exact hM _ _; split <;> omega
  have hMv : ∀ r, r < n → mlF M v n r 0 = 0 := fun r hr => by
    have e : ∀ m, m < n → rmul (M r m) (v m 0) = (if m = r then (if r < i then M r i else 0) else 0) ^^^ (if m = i then M r i else 0) := fun m hm => by
      rw [hv]
      by_cases h1 : m < i
      · rw [if_pos h1, hcols r m hr h1, id_val, if_neg (show ¬ m = i by omega), Nat.xor_zero]
        by_cases h2 : m = r
        · subst h2
          rw [if_pos rfl, if_pos rfl, if_pos h1, one_mul8 _ (hM _ _)]
        · rw [if_neg (fun e => h2 e.symm), if_neg h2, rmul_zero_left]
      · rw [if_neg h1]
        by_cases h2 : m = i
        · subst h2
          rw [if_pos rfl, if_pos rfl, rmul_one _ (hM _ _)]
          by_cases h3 : m = r
          · subst h3
            rw [if_pos rfl, if_neg h1, Nat.zero_xor]
          · rw [if_neg h3, Nat.zero_xor]
        · rw [if_neg h2, if_neg h2, rmul_zero_right, Nat.xor_zero]
          by_cases h3 : m = r
          · subst h3
            rw [if_pos rfl, if_neg h1]
          · rw [if_neg h3]
    unfold mlF
    rw [dt_sm, sm_congr _ _ n e, sm_xor, sm_one, sm_one, if_pos hr, if_pos hi]
    by_cases h1 : r < i
    · rw [if_pos h1, Nat.xor_self]
    · rw [if_neg h1, Nat.zero_xor]
      exact p4 r (by omega) hr
  have hFv : ∀ r, r < n → mlF F v n r 0 = 0 := fun r hr => by
    have e1 : mlF F v n r 0 = mlF (mlF G E n) (mlF F v n) n r 0 := by
      rw [ml_congr (mlF G E n) idF _ _ n r 0 (fun m hm => hGE r m hr hm) (fun _ _ => rfl), ml_id_l _ (ml_bd _ _ _) n r 0 hr]
    rw [e1, ml_assoc G E _ hG hE (ml_bd _ _ _)]
    have e2 : ∀ m, m < n → mlF E (mlF F v n) n m 0 = 0 := fun m hm => by
      rw [← ml_assoc E _ v hE hF hvb, ml_congr _ M v v n m 0 (fun j _ => hprod m j hm) (fun _ _ => rfl)]
      exact hMv m hm
    unfold mlF at e2 ⊢
    rw [dt_sm, sm_congr _ (fun _ => 0) n (fun m hm => by rw [e2 m hm, rmul_zero_right]), sm_zero]
  have h0 := hker v hvb hFv i hi
  rw [hv, if_neg (by omega), if_pos rfl] at h0
  omega
set_option maxRecDepth 100000 in
/-- what has an inverse on the left takes only nought to nought -/
theorem left_ker (G F : Nat → Nat → Nat) (hG : Bd2 G) (hF : Bd2 F) (n : Nat) (h : ∀ r c, r < n → c < n → mlF G F n r c = idF r c) (v : Nat → Nat → Nat) (hv : Bd2 v) (h0 : ∀ r, r < n → mlF F v n r 0 = 0) (c : Nat) (hc : c < n) : v c 0 = 0 := by
  have e1 : v c 0 = mlF (mlF G F n) v n c 0 := by
    rw [ml_congr (mlF G F n) idF v v n c 0 (fun m hm => h c m hc hm) (fun _ _ => rfl), ml_id_l v hv n c 0 hc]
  rw [e1, ml_assoc G F v hG hF hv]
  unfold mlF at h0 ⊢
  rw [dt_sm, sm_congr _ (fun _ => 0) n (fun m hm => by rw [h0 m hm, rmul_zero_right]), sm_zero]
set_option maxRecDepth 100000 in
/-- any k unlike rows of the code find their pivots -/
theorem rs_mds (k : Nat) (I : Nat → Nat) (hk : k ≤ 255) (hI : ∀ j, j < k → I j < 256) (hinj : ∀ i j, i < k → j < k → I i = I j → i = j) (i : Nat) (hi : i < k) : pvF (ivS (pkF (rsF k) I) k i).1 i k i < k := by
  have hA : pkF (rsF k) I = mlF (fun r c => rpow (I r) c) (ivS topF k k).2 k := by
    funext r c
    unfold pkF rsF mlF
    rw [dt_sm, dt_sm]
    rfl
  have hP : Bd2 (fun r c => rpow (I r) c) := fun _ _ => rpow_lt _ _
  have hE := (iv_bd topF topF_bd k k).2
  have hpP := fun j hj => pow_pivots I k hI hinj j hj
  have hAb : Bd2 (pkF (rsF k) I) := fun r c => rs_bd k _ _
  refine ker_pivots _ hAb k (fun v hv h => ?_) i hi
  rw [hA] at h
  have h1 : ∀ c, c < k → mlF (ivS topF k k).2 v k c 0 = 0 := fun c hc =>
    left_ker (ivS (fun r c => rpow (I r) c) k k).2 (fun r c => rpow (I r) c) (iv_bd _ hP k k).2 hP k (fun r c hr hc => (iv_inverse _ hP k hpP r c hr hc).1) (mlF (ivS topF k k).2 v k) (ml_bd _ _ _) (fun r hr => by
      rw [← ml_assoc _ _ v hP hE hv]
      exact h r hr) c hc
  exact left_ker topF (ivS topF k k).2 topF_bd hE k (fun r c hr hc => (iv_inverse topF topF_bd k (top_piv k hk) r c hr hc).2) v hv h1
set_option maxRecDepth 100000 in
/-- all shards of a group are rows of the code times the data -/
theorem gr_rows (k : Nat) (hk : k ≤ 255) (In : Nat → Nat) (hIn : ∀ j, In j < 65536) (i t : Nat) : grD k In i t = mlF (rsF k) (inV In) k i t := by
  unfold grD catV
  by_cases h : i < k
  · rw [if_pos h]
    have e : ∀ m, m < k → rsF k i m = idF i m := fun m hm => by
      unfold rsF
      rw [← (iv_inverse topF topF_bd k (top_piv k hk) i m h hm).2]
      exact ml_congr _ _ _ _ k i m (fun _ _ => rfl) (fun _ _ => rfl)
    rw [ml_congr (rsF k) idF (inV In) (inV In) k i t (fun m hm => e m hm) (fun _ _ => rfl), ml_id_l _ (inV_bd In hIn) k i t h]
  · rw [if_neg h]
    unfold paF mlF pkF
    have e : k + (i - k) = i := by omega
    rw [dt_sm, dt_sm]
    dsimp only
    rw [e]
set_option maxRecDepth 100000 in
/-- the data come back -/
theorem rs_back (k : Nat) (hk : k ≤ 255) (In : Nat → Nat) (hIn : ∀ j, In j < 65536) (I : Nat → Nat) (hI : ∀ j, j < k → I j < 256) (hinj : ∀ i j, i < k → j < k → I i = I j → i = j) (r t : Nat) (hr : r < k) :
    mlF (ivS (pkF (rsF k) I) k k).2 (fun j => grD k In (I j)) k r t = inV In r t := by
  have hAb : Bd2 (pkF (rsF k) I) := fun r c => rs_bd k _ _
  have hV := inV_bd In hIn
  have hE := (iv_bd _ hAb k k).2
  rw [ml_congr _ (ivS (pkF (rsF k) I) k k).2 _ (mlF (pkF (rsF k) I) (inV In) k) k r t (fun _ _ => rfl) (fun m _ => by
    rw [gr_rows k hk In hIn]
    unfold mlF pkF
    rw [dt_sm, dt_sm]), ← ml_assoc _ _ _ hE hAb hV]
  rw [ml_congr _ idF _ (inV In) k r t (fun m hm => (iv_inverse _ hAb k (rs_mds k I hk hI hinj) r m hr hm).1) (fun _ _ => rfl), ml_id_l _ hV k r t hr]
end Go.Proofs.Ytmfagdbocidfjaa
