/- The contracts of package shake: a question's number, and what each call does to the state. Conditions: the state lies at the pointer. -/
import Derived.Test.YtdpngimcmohmaaaAid
import Derived.Laws.Rows
import Derived.Laws.CopyOwn
import Derived.Deep.RegionWith
import Derived.Deep.RegionHeld3
import Derived.StillTailTactics
namespace Go.Proofs.Ytdpngimcmohmaaa
open Go.RowKit
/-! ### a question's number -/
def tok1 (own rd : Int) : Int := bits .xor .u32 own (rd % 4294967296 * 2654435769 % 4294967296)
def tok2 (own rd : Int) : Int := bits .xor .u32 (tok1 own rd) (tok1 own rd / 65536) * 2246822507 % 4294967296
def tok3 (own rd : Int) : Int := bits .xor .u32 (tok2 own rd) (tok2 own rd / 8192)
def tokZ (own rd : Int) : Int := if tok3 own rd = 0 then 1 else tok3 own rd
set_option maxRecDepth 100000 in
theorem xor_bd (a b : Int) : 0 ≤ bits .xor .u32 a b ∧ bits .xor .u32 a b < 4294967296 := by
  have h : ∃ n : Int, bits .xor .u32 a b = IntKind.u32.wrap n := ⟨_, rfl⟩
  obtain ⟨n, hn⟩ := h
  rw [hn, IntKind.wrap_u32]
  omega
set_option maxRecDepth 100000 in
theorem tok3_bd (own rd : Int) : 0 ≤ tok3 own rd ∧ tok3 own rd < 4294967296 := xor_bd _ _
set_option maxRecDepth 100000 in
theorem tokZ_bd (own rd : Int) : 0 < tokZ own rd ∧ tokZ own rd < 4294967296 := by
  have := tok3_bd own rd
  unfold tokZ
  split <;> omega
set_option maxRecDepth 100000 in
theorem tok_yes (own rd : Int) (h : tok3 own rd = 0) : 1 = tokZ own rd := (if_pos h).symm
set_option maxRecDepth 100000 in
theorem tok_no (own rd : Int) (h : tok3 own rd ≠ 0) : tok3 own rd = tokZ own rd := (if_neg h).symm
set_option maxRecDepth 100000 in
set_option maxHeartbeats 400000 in
theorem s_token (own rd : Int) (w : World) (h0 : 0 ≤ own) (h1 : own < 4294967296) :
    Calls Try.prog 7 #[.int .u32 own, .int .i64 rd] w fun e w' => e = .returned (.int .u32 (tokZ own rd)) ∧ w = w' := by
  go_enter Try.func7, Try.ntmps7
  go_wp2_with fail
  · rename_i h
    have hy := tok_yes own rd
    unfold tok3 tok2 tok1 at hy
    go_ret
    rw [beq_iff_eq] at h
    rw [h] at hy
    exact ⟨ret_int (hy rfl), rfl⟩
  · rename_i h
    have hy := tok_no own rd
    unfold tok3 tok2 tok1 at hy
    go_ret
    rw [beq_eq_false_iff_ne] at h
    refine ⟨ret_int (hy ?_), rfl⟩
    with_reducible exact h
set_option maxRecDepth 100000 in
set_option maxHeartbeats 400000 in
theorem r_token (own rd : Int) (w : World) (h0 : 0 ≤ own) (h1 : own < 4294967296) :
    Calls Try.prog 8 #[.int .u32 own, .int .i64 rd] w fun e w' => e = .returned (.int .u32 (tokZ own rd)) ∧ w = w' := by
  go_enter Try.func8, Try.ntmps8
  go_upto_region 2 with (fail)
  have hyes := tok_yes own rd
  have hno := tok_no own rd
  unfold tok3 tok2 tok1 at hyes hno
  have hx := xor_bd own (rd % 4294967296 * 2654435769 % 4294967296)
  generalize bits .xor .u32 own (rd % 4294967296 * 2654435769 % 4294967296) = X at *
  obtain ⟨hx1, hx2⟩ := hx
  have hyh := Lib.hid hyes
  have hnh := Lib.hid hno
  clear hyes hno
  go_wp2_with fail
  · rename_i h
    have hy := hyh.out
    go_ret
    rw [beq_iff_eq] at h
    rw [h] at hy
    exact ⟨ret_int (hy rfl), rfl⟩
  · rename_i h
    have hy := hnh.out
    go_ret
    rw [beq_eq_false_iff_ne] at h
    refine ⟨ret_int (hy ?_), rfl⟩
    with_reducible exact h
attribute [local irreducible] tokZ
/-! ### the state -/
structure ShS where
  st : Int
  own : Int
  rd : Int
  peer : Int
  q : Int
  k : Int
def shA (s : ShS) : Array Value := #[.int .i64 s.st, .int .u32 s.own, .int .i64 s.rd, .int .u32 s.peer, .int .i64 s.q, .int .i64 s.k]
/-- a datagram of the kind that package shake sends -/
def dgmA (kind a b : Int) : Array Value := #[.int .i64 kind, .int .u32 0, .int .u32 0, .int .i64 0, .int .u32 0, .int .u32 a, .int .u32 b, .int .i64 0, .int .i64 0, .int .i64 0, .slice none 0 0]
def ShAt (w : World) (p : Nat) (s : ShS) : Prop := w.heap[p]? = some (.cells (shA s) 45 (0, 0))
/-- numbers that the state may hold -/
structure ShOk (s : ShS) : Prop where
  o1 : 0 ≤ s.own
  o2 : s.own < 4294967296
  r1 : 0 ≤ s.rd
  r2 : s.rd ≤ 1000000
  q1 : 0 ≤ s.q
  q2 : s.q ≤ 1000000
  k1 : 0 ≤ s.k
  k2 : s.k ≤ 1000000
def ShPost (W : World) (p : Nat) (s : ShS) (v : Value) (e : Ending) (W' : World) : Prop := e = .returned v ∧ ShAt W' p s ∧ W.grownBy W' (some p)
set_option maxRecDepth 100000 in
theorem zeroDgm (w : World) : (zeroValue 34).run Try.prog w = .ok (.agg #[.int .i64 0, .int .u32 0, .int .u32 0, .int .i64 0, .int .u32 0, .int .u32 0, .int .u32 0, .int .i64 0, .int .i64 0, .int .i64 0, .slice none 0 0]) w := by kernel_rfl

set_option maxRecDepth 100000 in
theorem shA_0 (s : ShS) (x : Int) : (shA s).setIfInBounds 0 (.int .i64 x) = shA { s with st := x } := rfl
set_option maxRecDepth 100000 in
theorem shA_2 (s : ShS) (x : Int) : (shA s).setIfInBounds 2 (.int .i64 x) = shA { s with rd := x } := rfl
set_option maxRecDepth 100000 in
theorem shA_3 (s : ShS) (x : Int) : (shA s).setIfInBounds 3 (.int .u32 x) = shA { s with peer := x } := rfl
set_option maxRecDepth 100000 in
theorem shA_4 (s : ShS) (x : Int) : (shA s).setIfInBounds 4 (.int .i64 x) = shA { s with q := x } := rfl
set_option maxRecDepth 100000 in
theorem shA_5 (s : ShS) (x : Int) : (shA s).setIfInBounds 5 (.int .i64 x) = shA { s with k := x } := rfl
set_option maxRecDepth 100000 in
theorem ShAt.set0 {w : World} {p : Nat} {s : ShS} (h : ShAt w p s) (x : Int) : ShAt (w.setCell ⟨p, 0, none⟩ (.int .i64 x)) p { s with st := x } := by unfold ShAt; rw [blk_set h, shA_0]
set_option maxRecDepth 100000 in
theorem ShAt.set2 {w : World} {p : Nat} {s : ShS} (h : ShAt w p s) (x : Int) : ShAt (w.setCell ⟨p, 2, none⟩ (.int .i64 x)) p { s with rd := x } := by unfold ShAt; rw [blk_set h, shA_2]
set_option maxRecDepth 100000 in
theorem ShAt.set3 {w : World} {p : Nat} {s : ShS} (h : ShAt w p s) (x : Int) : ShAt (w.setCell ⟨p, 3, none⟩ (.int .u32 x)) p { s with peer := x } := by unfold ShAt; rw [blk_set h, shA_3]
set_option maxRecDepth 100000 in
theorem ShAt.set4 {w : World} {p : Nat} {s : ShS} (h : ShAt w p s) (x : Int) : ShAt (w.setCell ⟨p, 4, none⟩ (.int .i64 x)) p { s with q := x } := by unfold ShAt; rw [blk_set h, shA_4]
set_option maxRecDepth 100000 in
theorem ShAt.set5 {w : World} {p : Nat} {s : ShS} (h : ShAt w p s) (x : Int) : ShAt (w.setCell ⟨p, 5, none⟩ (.int .i64 x)) p { s with k := x } := by unfold ShAt; rw [blk_set h, shA_5]
set_option maxRecDepth 100000 in
theorem ShAt.alloc {w : World} {p : Nat} {s : ShS} (h : ShAt w p s) (o : Obj) : ShAt (w.alloc o) p s := blk_alloc h o
set_option maxRecDepth 100000 in
theorem ShAt.drewN {w : World} {p : Nat} {s : ShS} (h : ShAt w p s) (n : Nat) : ShAt (w.drewN n) p s := h
set_option maxRecDepth 100000 in
theorem ShAt.drew {w : World} {p : Nat} {s : ShS} (h : ShAt w p s) : ShAt w.drew p s := h
set_option maxRecDepth 100000 in
theorem ShAt.setRow {w : World} {p g : Nat} {s : ShS} (h : ShAt w p s) (hne : p ≠ g) (c : Array Value) : ShAt (w.setRow g c) p s := (setRow_other w g p c hne).trans h
set_option maxRecDepth 100000 in
theorem dgm_info11 : (Try.prog.info? 34).map (·.size) = some 11 := by kernel_rfl
set_option maxRecDepth 100000 in
theorem dgm_info (D : Array Value) (h : D.size = 11) : (Try.prog.info? 34).map (·.size) = some D.size := by rw [h]; exact dgm_info11
set_option maxRecDepth 100000 in
set_option maxHeartbeats 1000000 in
theorem s_question (p : Nat) (s : ShS) (w : World) (hs : ShAt w p s) (ok : ShOk s) :
    Calls Try.prog 16 #[.pointer (some ⟨p, 0, none⟩)] w (ShPost w p { s with k := s.k + 1, q := 0 } (.agg (dgmA 1 (tokZ s.own s.rd) 0))) := by
  obtain ⟨st, own, rd, peer, q, k⟩ := s
  obtain ⟨o1, o2, r1, r2, q1, q2, k1, k2⟩ := ok
  simp only at o1 o2 r1 r2 q1 q2 k1 k2 ⊢
  have hp : p < w.heap.size := (Array.getElem?_eq_some_iff.1 hs).1
  have c1 : w.cell? ⟨p, 1, none⟩ = some (.int .u32 own) := by rw [cell_of_block hs]; rfl
  have c2 : w.cell? ⟨p, 2, none⟩ = some (.int .i64 rd) := by rw [cell_of_block hs]; rfl
  have c4 : w.cell? ⟨p, 4, none⟩ = some (.int .i64 q) := by rw [cell_of_block hs]; rfl
  have c5 : w.cell? ⟨p, 5, none⟩ = some (.int .i64 k) := by rw [cell_of_block hs]; rfl
  have f4 : w.frozen? ⟨p, 4, none⟩ = false := frozen_of_row w p 4 _ _ hs
  have f5 : w.frozen? ⟨p, 5, none⟩ = false := frozen_of_row w p 5 _ _ hs
  have hz := zeroDgm
  have hsh := hide hs
  clear hs
  go_enter Try.func16, Try.ntmps16
  go_wp2_with fail
  go_region_with (go_at_call 7; refine (s_token own rd _ o1 o2).mono ?_; rintro e w' ⟨rfl, rfl⟩)
  all_goals
    go_wp2_with fail
    generalize hD : (#[.int .i64 1, .int .u32 0, .int .u32 0, .int .i64 0, .int .u32 0, .int .u32 (tokZ own rd), .int .u32 0, .int .i64 0, .int .i64 0, .int .i64 0, .slice none 0 0] : Array Value) = D
    refine bodyPost_ret (v := .agg D) ?hres rfl ?hpost
    case hpost =>
      rw [← hD]
      exact ⟨rfl, (((hsh.out.set5 (k + 1)).set4 0).alloc _).drew, only_drew (only_alloc (only_set (only_set (only_refl w _) 5 _) 4 _) _)⟩
    case hres =>
      have hi := dgm_info D (by rw [← hD]; rfl)
      refine results_cell_row rfl _ _ w.heap.size 34 D (0, 0) _ rfl ?hg Try.underlying34 rfl hi
      case hg =>
        refine blk_drew (last_block0 _ _ _ ?_)
        simp
end Go.Proofs.Ytdpngimcmohmaaa
