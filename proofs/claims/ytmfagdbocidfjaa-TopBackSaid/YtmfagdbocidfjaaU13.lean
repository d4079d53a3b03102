import Derived.Test.YtmfagdbocidfjaaU12
import Derived.Deep.MidRow
import Derived.IntWalk
/- A body's shot. Conditions: the state's numbers are such as their types hold. -/
namespace Go.Proofs.Ytmfagdbocidfjaa
open Go.RowKit
def setShot (S : Nat → Int) (k : Nat) (on : Bool) (a b c d e : Int) : Nat → Int :=
  setS (setS (setS (setS (setS (setS S (16 + k * 6) (if on then 1 else 0)) (16 + k * 6 + 1) a) (16 + k * 6 + 2) b) (16 + k * 6 + 3) c) (16 + k * 6 + 4) d) (16 + k * 6 + 5) e
def setBody (S : Nat → Int) (i : Nat) (a b c d e f h : Int) : Nat → Int :=
  setS (setS (setS (setS (setS (setS (setS S (2 + i * 7) a) (2 + i * 7 + 1) b) (2 + i * 7 + 2) c) (2 + i * 7 + 3) d) (2 + i * 7 + 4) e) (2 + i * 7 + 5) f) (2 + i * 7 + 6) h
def fireSet (i : Nat) (S : Nat → Int) (k : Nat) : Nat → Int :=
  setS (setShot S k true (S (2 + i * 7)) (satZ (S (2 + i * 7 + 1) + 65536)) (clampZ (S (2 + i * 7 + 6)) (-1) 1 * 393216) i 60) (2 + i * 7 + 5) 15
def firstFree (S : Nat → Int) : Option Nat := (List.range 8).find? (fun k => decide (S (16 + k * 6) = 0))
def fireF (i : Nat) (x : Int) (S : Nat → Int) : Nat → Int :=
  if 0 < S (2 + i * 7 + 5) then setS S (2 + i * 7 + 5) (S (2 + i * 7 + 5) - 1)
  else if btn x 16 = false then S
  else match firstFree S with
    | some k => fireSet i S k
    | none => S
set_option maxRecDepth 100000 in
theorem find_range (p : Nat → Bool) : ∀ (n : Nat), (∀ j, j < n → p j = false) → (List.range n).find? p = none := fun n h => by
  rw [List.find?_eq_none]
  intro x hx
  rw [h x (List.mem_range.1 hx)]
  simp
set_option maxRecDepth 100000 in
theorem find_first (p : Nat → Bool) {n k : Nat} (hk : k < n) (h : ∀ j, j < k → p j = false) (hp : p k = true) : (List.range n).find? p = some k := by
  have : List.range n = List.range k ++ (k :: (List.range (n - k - 1)).map (· + (k + 1))) := by
    conv => lhs; rw [show n = k + ((n - k - 1) + 1) by omega, List.range_add, List.range_succ_eq_map]
    simp only [List.map_cons, List.map_map, Nat.add_zero, List.append_cancel_left_eq, List.cons.injEq, true_and]
    apply List.map_congr_left
    intro a _
    simp only [Function.comp]
    omega
  rw [this, List.find?_append, find_range p k h, List.find?_cons, hp]
  rfl
set_option maxRecDepth 100000 in
theorem free_none {S : Nat → Int} (h : ∀ j, j < 8 → S (16 + j * 6) ≠ 0) : firstFree S = none := find_range _ 8 fun j hj => decide_eq_false (h j hj)
set_option maxRecDepth 100000 in
theorem free_some {S : Nat → Int} {k : Nat} (hk : k < 8) (h : ∀ j, j < k → S (16 + j * 6) ≠ 0) (h0 : S (16 + k * 6) = 0) : firstFree S = some k := find_first _ hk (fun j hj => decide_eq_false (h j hj)) (decide_eq_true h0)
set_option maxRecDepth 100000 in
theorem kd_shot {k : Nat} (hk : k < 8) : kdS (16 + k * 6) = 2 ∧ ∀ j, 0 < j → j < 6 → kdS (16 + k * 6 + j) = 0 := by
  constructor
  · unfold kdS; rw [if_neg (by omega), if_pos (by omega)]
  · intro j h1 h2; unfold kdS; rw [if_neg (by omega), if_neg (by omega)]
set_option maxRecDepth 100000 in
theorem kd_body {i j : Nat} (hi : i < 2) (hj : j < 7) : kdS (2 + i * 7 + j) = 0 := by unfold kdS; rw [if_neg (by omega), if_neg (by omega)]
set_option maxRecDepth 100000 in
theorem GOk.shot {S : Nat → Int} {k : Nat} {on : Bool} {a b c d e : Int} (h : GOk S) (ha : I64 a) (hb : I64 b) (hc : I64 c) (hd : I64 d) (he : I64 e) : GOk (setShot S k on a b c d e) :=
  GOk.set (GOk.set (GOk.set (GOk.set (GOk.set (GOk.set h (by omega) (by split <;> exact small_in (by decide) (by decide))) (by omega) ha) (by omega) hb) (by omega) hc) (by omega) hd) (by omega) he
set_option maxRecDepth 100000 in
theorem GOk.body {S : Nat → Int} {i : Nat} {a b c d e f x : Int} (h : GOk S) (ha : I64 a) (hb : I64 b) (hc : I64 c) (hd : I64 d) (he : I64 e) (hf : I64 f) (hx : I64 x) : GOk (setBody S i a b c d e f x) :=
  GOk.set (GOk.set (GOk.set (GOk.set (GOk.set (GOk.set (GOk.set h (by omega) ha) (by omega) hb) (by omega) hc) (by omega) hd) (by omega) he) (by omega) hf) (by omega) hx
set_option maxRecDepth 100000 in
theorem StAt.shot {w : World} {g : Nat} {S : Nat → Int} (h : StAt w g S) {k : Nat} (hk : k < 8) (on : Bool) (a b c d e : Int) :
    StAt (w.setCells g (16 + k * 6) [.bool on, .int .i64 a, .int .i64 b, .int .i64 c, .int .i64 d, .int .i64 e]) g (setShot S k on a b c d e) :=
  ((((((h.put (o := 16 + k * 6) (by omega) (if on then 1 else 0) (x := .bool on) (by rw [cvS_bool (kd_shot hk).1]; cases on <;> rfl)).set (o := 16 + k * 6 + 1) (by omega) ((kd_shot hk).2 1 (by decide) (by decide)) a).set (o := 16 + k * 6 + 2) (by omega) ((kd_shot hk).2 2 (by decide) (by decide)) b).set (o := 16 + k * 6 + 3) (by omega) ((kd_shot hk).2 3 (by decide) (by decide)) c).set (o := 16 + k * 6 + 4) (by omega) ((kd_shot hk).2 4 (by decide) (by decide)) d).set (o := 16 + k * 6 + 5) (by omega) ((kd_shot hk).2 5 (by decide) (by decide)) e)
set_option maxRecDepth 100000 in
theorem StAt.body {w : World} {g : Nat} {S : Nat → Int} (h : StAt w g S) {i : Nat} (hi : i < 2) (a b c d e f x : Int) :
    StAt (w.setCells g (2 + i * 7) [.int .i64 a, .int .i64 b, .int .i64 c, .int .i64 d, .int .i64 e, .int .i64 f, .int .i64 x]) g (setBody S i a b c d e f x) :=
  (((((((h.set (o := 2 + i * 7) (by omega) (kd_body hi (j := 0) (by decide)) a).set (o := 2 + i * 7 + 1) (by omega) (kd_body hi (by decide)) b).set (o := 2 + i * 7 + 2) (by omega) (kd_body hi (by decide)) c).set (o := 2 + i * 7 + 3) (by omega) (kd_body hi (by decide)) d).set (o := 2 + i * 7 + 4) (by omega) (kd_body hi (by decide)) e).set (o := 2 + i * 7 + 5) (by omega) (kd_body hi (by decide)) f).set (o := 2 + i * 7 + 6) (by omega) (kd_body hi (by decide)) x)
set_option maxRecDepth 100000 in
theorem only_setCells {w y : World} {g : Nat} (h : w.grownBy y (some g)) : ∀ (vs : List Value) (o : Nat), w.grownBy (y.setCells g o vs) (some g) := by
  intro vs
  induction vs generalizing y with
  | nil => intro o; exact h
  | cons v vs ih => intro o; exact ih (only_set h o v) (o + 1)
set_option maxRecDepth 100000 in
theorem StAt.there {w : World} {g : Nat} {S : Nat → Int} (h : StAt w g S) {o n : Nat} (hn : o + n ≤ 66) : w.there g o n := fun j hj => ⟨by rw [h.at (by omega)]; rfl, h.fr _⟩
set_option maxRecDepth 100000 in
theorem StAt.range {w : World} {g : Nat} {S : Nat → Int} (h : StAt w g S) {o n : Nat} (hn : o + n ≤ 66) : w.rangeAt g o ((List.range n).map fun j => cvS (o + j) (S (o + j))) := fun j v hv => by
  rw [List.getElem?_map] at hv
  rcases Nat.lt_or_ge j n with hj | hj
  · rw [List.getElem?_range hj] at hv
    rw [← hv]
    exact h.at (by omega)
  · rw [List.getElem?_eq_none (by simpa using hj)] at hv
    cases hv
set_option maxRecDepth 100000 in
theorem exec_store {P : Program} {o : Oper} {a : Act} {w w' : World} {v x : Value} (p y : Operand) (t : TypeId) (ho : o.op = .store t p y) (hp : a.eval p = v) (hx : a.eval y = x) (hr : (Instr.storeAt t v x).run P w = .ok () w') :
    (execOp a.eval o).run P w = .ok .skip w' := by
  unfold execOp
  simp only [ho, hp, hx, Sem.run_bind, Sem.run_pure, Result.andThen_ok, hr]
set_option maxRecDepth 100000 in
theorem shot_info : (Try.prog.info? 45).map (·.size) = some 6 := by kernel_rfl
set_option maxRecDepth 100000 in
theorem body_info : (Try.prog.info? 42).map (·.size) = some 7 := by kernel_rfl
set_option maxRecDepth 100000 in
theorem GOk.fireSet {i : Nat} {S : Nat → Int} {k : Nat} (hi : i < 2) (h : GOk S) : GOk (Go.Proofs.Ytmfagdbocidfjaa.fireSet i S k) := by
  have := clampZ_bd (S (2 + i * 7 + 6)) (-1) 1 (by decide)
  exact (h.shot (h.1 _ (by omega)) (satZ_bd _) ⟨by omega, by omega⟩ (small_in (by omega) (by omega)) (small_in (by decide) (by decide))).set (by omega) (small_in (by decide) (by decide))
set_option maxRecDepth 100000 in
theorem GOk.fire {i : Nat} {x : Int} {S : Nat → Int} (hi : i < 2) (h : GOk S) : GOk (fireF i x S) := by
  unfold fireF
  split
  · have := h.1 (2 + i * 7 + 5) (by omega)
    exact h.set (by omega) ⟨by omega, by have := this.2; omega⟩
  · split
    · exact h
    · split
      · exact h.fireSet hi
      · exact h
attribute [local irreducible] stA fmulZ satZ clampZ
set_option maxRecDepth 100000 in
set_option maxHeartbeats 8000000 in
theorem g_fire (g i : Nat) (hi : i < 2) (S : Nat → Int) (x : Int) (w : World) (h : StAt w g S) (ok : GOk S) :
    Calls Try.prog 46 #[.pointer (some ⟨g, 0, none⟩), .int .i64 (i : Nat), .int .u16 x] w (GPost w g (fireF i x S)) := by
  have kq : ∀ j, j < 7 → kdS (2 + i * 7 + j) = 0 := fun j hj => by unfold kdS; rw [if_neg (by omega), if_neg (by omega)]
  have c5 := h.int (o := 2 + i * 7 + 5) (by omega) (kq 5 (by omega))
  have f5 := h.fr (2 + i * 7 + 5)
  have i1 : (i : Int) < 2 := by omega
  have hh := Lib.hid h
  have okh := Lib.hid ok
  obtain ⟨n, hn⟩ : ∃ n, S (2 + i * 7 + 5) = n := ⟨_, rfl⟩
  have hb := ok.1 (2 + i * 7 + 5) (by omega)
  rw [hn] at hb c5
  have hnh := Lib.hid hn
  clear h ok
  by_cases h0 : 0 < n
  · have w1 : IntKind.i64.wrap (n - 1) = n - 1 := by exact IntWalk.i64_in _ (by have := hb.2; omega)
    have e : Hid (GPost w g (fireF i x S) (.returned (.tuple #[])) (w.setCell ⟨g, 2 + i * 7 + 5, none⟩ (.int .i64 (n - 1)))) := hide (by
      unfold fireF; rw [hn, if_pos h0]; exact ⟨rfl, hh.out.set (by omega) (kq 5 (by omega)) _, only_set (only_refl w _) _ _⟩)
    clear hb hn kq
    go_enter Try.func46, Try.ntmps46
    go_wp2_with fail
    go_end0
    exact e.out
  · have d0 : decide (0 < n) = false := decide_eq_false h0
    by_cases hx : btn x 16 = false
    · have e : Hid (GPost w g (fireF i x S) (.returned (.tuple #[])) w) := hide (by
        unfold fireF; rw [hn, if_neg h0, if_pos hx]; exact ⟨rfl, hh.out, only_refl w _⟩)
      have hx2 : (bits BinOp.and IntKind.u16 x 16 == 0) = true := by
        unfold btn at hx
        simpa using hx
      clear hb hn kq h0
      go_enter Try.func46, Try.ntmps46
      go_wp2_with fail
      go_end0
      exact e.out
    · have e : Hid (fireF i x S = match firstFree S with
          | some k => fireSet i S k
          | none => S) := hide (by
        unfold fireF; rw [hn, if_neg h0, if_neg hx])
      have hx2 : (bits BinOp.and IntKind.u16 x 16 == 0) = false := by
        unfold btn at hx
        simpa using hx
      clear hb h0 hx
      go_enter Try.func46, Try.ntmps46
      go_upto_region 5 with (fail)
      go_loopw [28] (fun v28 wr => ∃ k : Nat, k ≤ 8 ∧ v28 = .int .i64 (k : Nat) ∧ w = wr ∧ ∀ j, j < k → S (16 + j * 6) ≠ 0) (fun v28 _ => 8 - (intOf v28).toNat)
      case atStart => exact ⟨0, by omega, rfl, rfl, fun j hj => absurd hj (by omega)⟩
      case round =>
        obtain ⟨k, hk, rfl, rfl, hall⟩ := hrel
        have hallh := Lib.hid hall
        clear hall
        by_cases hk8 : k < 8
        · have j1 : (k : Int) < 8 := by omega
          have cOn := hh.out.bool (o := 16 + k * 6) (by omega) (kd_shot hk8).1
          by_cases hf : S (16 + k * 6) = 0
          · have e2 := Lib.hid (free_some hk8 hallh.out hf)
            have e3 := e.out
            rw [e2.out] at e3
            simp only at e3
            have eh := Lib.hid e3
            have b1 : decide (S (16 + k * 6) ≠ 0) = false := by simp [hf]
            rw [b1] at cOn
            have hd : Hid (StAt w.drew g S) := hide hh.out
            have c0 := hd.out.int (o := 2 + i * 7) (by omega) (kq 0 (by omega))
            have c1 := hd.out.int (o := 2 + i * 7 + 1) (by omega) (kq 1 (by omega))
            have c6 := hd.out.int (o := 2 + i * 7 + 6) (by omega) (kq 6 (by omega))
            have a1 := Lib.hid (w_add (S (2 + i * 7 + 1)) 65536 w.drew (okh.out.1 _ (by omega)) (small_in (by decide) (by decide)))
            have l1 := Lib.hid (w_clamp (S (2 + i * 7 + 6)) (-1) 1 w.drew)
            go_upto_region 8 with (fail)
            have hHeld : (fun y : World => y.cell? ⟨g, 2 + i * 7, none⟩ = some (.int .i64 (S (2 + i * 7))) ∧ y.cell? ⟨g, 2 + i * 7 + 1, none⟩ = some (.int .i64 (S (2 + i * 7 + 1))) ∧ y.cell? ⟨g, 2 + i * 7 + 6, none⟩ = some (.int .i64 (S (2 + i * 7 + 6)))) w.drew := ⟨c0, c1, c6⟩
            refine h_begin 23 (fun y : World => y.cell? ⟨g, 2 + i * 7, none⟩ = some (.int .i64 (S (2 + i * 7))) ∧ y.cell? ⟨g, 2 + i * 7 + 1, none⟩ = some (.int .i64 (S (2 + i * 7 + 1))) ∧ y.cell? ⟨g, 2 + i * 7 + 6, none⟩ = some (.int .i64 (S (2 + i * 7 + 6)))) rfl (by kernel_rfl) hHeld ?_
            have hcl : Hid (-1 ≤ clampZ (S (2 + i * 7 + 6)) (-1) 1 ∧ clampZ (S (2 + i * 7 + 6)) (-1) 1 ≤ 1) := hide (clampZ_bd _ _ _ (by decide))
            have hw9 : IntKind.i64.wrap (clampZ (S (2 + i * 7 + 6)) (-1) 1 * 393216) = clampZ (S (2 + i * 7 + 6)) (-1) 1 * 393216 := by
              have := hcl.out
              exact IntWalk.i64_in _ (by omega)
            first
              | (refine h_run (i := 0) (v := ?_) hHeld rfl (by kernel_rfl) (by kernel_rfl) (by kernel_rfl) ?_ ?_ ?_
                 rotate_left
                 · rfl
                 · (intro x hSx; (try dsimp only at hSx); go_simp <;> with_reducible rfl)
                 simp only [Act.put, List.setIfInBounds_toArray, List.set_cons_zero, List.set_cons_succ])
              | (refine h_skip (i := 0) hHeld rfl (by kernel_rfl) (by kernel_rfl) (by kernel_rfl) ?_ ?_
                 · rfl
                 simp only [Act.put, List.setIfInBounds_toArray, List.set_cons_zero, List.set_cons_succ])
            first
              | (refine h_run (i := 1) (v := ?_) hHeld rfl (by kernel_rfl) (by kernel_rfl) (by kernel_rfl) ?_ ?_ ?_
                 rotate_left
                 · rfl
                 · (intro x hSx; (try dsimp only at hSx); go_simp <;> with_reducible rfl)
                 simp only [Act.put, List.setIfInBounds_toArray, List.set_cons_zero, List.set_cons_succ])
              | (refine h_skip (i := 1) hHeld rfl (by kernel_rfl) (by kernel_rfl) (by kernel_rfl) ?_ ?_
                 · rfl
                 simp only [Act.put, List.setIfInBounds_toArray, List.set_cons_zero, List.set_cons_succ])
            first
              | (refine h_run (i := 2) (v := ?_) hHeld rfl (by kernel_rfl) (by kernel_rfl) (by kernel_rfl) ?_ ?_ ?_
                 rotate_left
                 · rfl
                 · (intro x hSx; (try dsimp only at hSx); go_simp <;> with_reducible rfl)
                 simp only [Act.put, List.setIfInBounds_toArray, List.set_cons_zero, List.set_cons_succ])
              | (refine h_skip (i := 2) hHeld rfl (by kernel_rfl) (by kernel_rfl) (by kernel_rfl) ?_ ?_
                 · rfl
                 simp only [Act.put, List.setIfInBounds_toArray, List.set_cons_zero, List.set_cons_succ])
            first
              | (refine h_run (i := 3) (v := ?_) hHeld rfl (by kernel_rfl) (by kernel_rfl) (by kernel_rfl) ?_ ?_ ?_
                 rotate_left
                 · rfl
                 · (intro x hSx; (try dsimp only at hSx); go_simp <;> with_reducible rfl)
                 simp only [Act.put, List.setIfInBounds_toArray, List.set_cons_zero, List.set_cons_succ])
              | (refine h_skip (i := 3) hHeld rfl (by kernel_rfl) (by kernel_rfl) (by kernel_rfl) ?_ ?_
                 · rfl
                 simp only [Act.put, List.setIfInBounds_toArray, List.set_cons_zero, List.set_cons_succ])
            first
              | (refine h_run (i := 4) (v := ?_) hHeld rfl (by kernel_rfl) (by kernel_rfl) (by kernel_rfl) ?_ ?_ ?_
                 rotate_left
                 · rfl
                 · (intro x hSx; (try dsimp only at hSx); go_simp <;> with_reducible rfl)
                 simp only [Act.put, List.setIfInBounds_toArray, List.set_cons_zero, List.set_cons_succ])
              | (refine h_skip (i := 4) hHeld rfl (by kernel_rfl) (by kernel_rfl) (by kernel_rfl) ?_ ?_
                 · rfl
                 simp only [Act.put, List.setIfInBounds_toArray, List.set_cons_zero, List.set_cons_succ])
            first
              | (refine h_run (i := 5) (v := ?_) hHeld rfl (by kernel_rfl) (by kernel_rfl) (by kernel_rfl) ?_ ?_ ?_
                 rotate_left
                 · rfl
                 · (intro x hSx; (try dsimp only at hSx); go_simp <;> with_reducible rfl)
                 simp only [Act.put, List.setIfInBounds_toArray, List.set_cons_zero, List.set_cons_succ])
              | (refine h_skip (i := 5) hHeld rfl (by kernel_rfl) (by kernel_rfl) (by kernel_rfl) ?_ ?_
                 · rfl
                 simp only [Act.put, List.setIfInBounds_toArray, List.set_cons_zero, List.set_cons_succ])
            first
              | (refine h_run (i := 6) (v := ?_) hHeld rfl (by kernel_rfl) (by kernel_rfl) (by kernel_rfl) ?_ ?_ ?_
                 rotate_left
                 · rfl
                 · (intro x hSx; (try dsimp only at hSx); go_simp <;> with_reducible rfl)
                 simp only [Act.put, List.setIfInBounds_toArray, List.set_cons_zero, List.set_cons_succ])
              | (refine h_skip (i := 6) hHeld rfl (by kernel_rfl) (by kernel_rfl) (by kernel_rfl) ?_ ?_
                 · rfl
                 simp only [Act.put, List.setIfInBounds_toArray, List.set_cons_zero, List.set_cons_succ])
            first
              | (refine h_run (i := 7) (v := ?_) hHeld rfl (by kernel_rfl) (by kernel_rfl) (by kernel_rfl) ?_ ?_ ?_
                 rotate_left
                 · rfl
                 · (intro x hSx; (try dsimp only at hSx); go_simp <;> with_reducible rfl)
                 simp only [Act.put, List.setIfInBounds_toArray, List.set_cons_zero, List.set_cons_succ])
              | (refine h_skip (i := 7) hHeld rfl (by kernel_rfl) (by kernel_rfl) (by kernel_rfl) ?_ ?_
                 · rfl
                 simp only [Act.put, List.setIfInBounds_toArray, List.set_cons_zero, List.set_cons_succ])
            first
              | (refine h_run (i := 8) (v := ?_) hHeld rfl (by kernel_rfl) (by kernel_rfl) (by kernel_rfl) ?_ ?_ ?_
                 rotate_left
                 · rfl
                 · (intro x hSx; (try dsimp only at hSx); go_simp <;> with_reducible rfl)
                 simp only [Act.put, List.setIfInBounds_toArray, List.set_cons_zero, List.set_cons_succ])
              | (refine h_skip (i := 8) hHeld rfl (by kernel_rfl) (by kernel_rfl) (by kernel_rfl) ?_ ?_
                 · rfl
                 simp only [Act.put, List.setIfInBounds_toArray, List.set_cons_zero, List.set_cons_succ])
            first
              | (refine h_run (i := 9) (v := ?_) hHeld rfl (by kernel_rfl) (by kernel_rfl) (by kernel_rfl) ?_ ?_ ?_
                 rotate_left
                 · rfl
                 · (intro x hSx; (try dsimp only at hSx); go_simp <;> with_reducible rfl)
                 simp only [Act.put, List.setIfInBounds_toArray, List.set_cons_zero, List.set_cons_succ])
              | (refine h_skip (i := 9) hHeld rfl (by kernel_rfl) (by kernel_rfl) (by kernel_rfl) ?_ ?_
                 · rfl
                 simp only [Act.put, List.setIfInBounds_toArray, List.set_cons_zero, List.set_cons_succ])
            first
              | (refine h_run (i := 11) (v := ?_) hHeld rfl (by kernel_rfl) (by kernel_rfl) (by kernel_rfl) ?_ ?_ ?_
                 rotate_left
                 · rfl
                 · (intro x hSx; (try dsimp only at hSx); go_simp <;> with_reducible rfl)
                 simp only [Act.put, List.setIfInBounds_toArray, List.set_cons_zero, List.set_cons_succ])
              | (refine h_skip (i := 11) hHeld rfl (by kernel_rfl) (by kernel_rfl) (by kernel_rfl) ?_ ?_
                 · rfl
                 simp only [Act.put, List.setIfInBounds_toArray, List.set_cons_zero, List.set_cons_succ])
            first
              | (refine h_run (i := 12) (v := ?_) hHeld rfl (by kernel_rfl) (by kernel_rfl) (by kernel_rfl) ?_ ?_ ?_
                 rotate_left
                 · rfl
                 · (intro x hSx; (try dsimp only at hSx); go_simp <;> with_reducible rfl)
                 simp only [Act.put, List.setIfInBounds_toArray, List.set_cons_zero, List.set_cons_succ])
              | (refine h_skip (i := 12) hHeld rfl (by kernel_rfl) (by kernel_rfl) (by kernel_rfl) ?_ ?_
                 · rfl
                 simp only [Act.put, List.setIfInBounds_toArray, List.set_cons_zero, List.set_cons_succ])
            first
              | (refine h_run (i := 13) (v := ?_) hHeld rfl (by kernel_rfl) (by kernel_rfl) (by kernel_rfl) ?_ ?_ ?_
                 rotate_left
                 · rfl
                 · (intro x hSx; (try dsimp only at hSx); go_simp <;> with_reducible rfl)
                 simp only [Act.put, List.setIfInBounds_toArray, List.set_cons_zero, List.set_cons_succ])
              | (refine h_skip (i := 13) hHeld rfl (by kernel_rfl) (by kernel_rfl) (by kernel_rfl) ?_ ?_
                 · rfl
                 simp only [Act.put, List.setIfInBounds_toArray, List.set_cons_zero, List.set_cons_succ])
            first
              | (refine h_run (i := 14) (v := ?_) hHeld rfl (by kernel_rfl) (by kernel_rfl) (by kernel_rfl) ?_ ?_ ?_
                 rotate_left
                 · rfl
                 · (intro x hSx; (try dsimp only at hSx); go_simp <;> with_reducible rfl)
                 simp only [Act.put, List.setIfInBounds_toArray, List.set_cons_zero, List.set_cons_succ])
              | (refine h_skip (i := 14) hHeld rfl (by kernel_rfl) (by kernel_rfl) (by kernel_rfl) ?_ ?_
                 · rfl
                 simp only [Act.put, List.setIfInBounds_toArray, List.set_cons_zero, List.set_cons_succ])
            first
              | (refine h_run (i := 17) (v := ?_) hHeld rfl (by kernel_rfl) (by kernel_rfl) (by kernel_rfl) ?_ ?_ ?_
                 rotate_left
                 · rfl
                 · (intro x hSx; (try dsimp only at hSx); go_simp <;> with_reducible rfl)
                 simp only [Act.put, List.setIfInBounds_toArray, List.set_cons_zero, List.set_cons_succ])
              | (refine h_skip (i := 17) hHeld rfl (by kernel_rfl) (by kernel_rfl) (by kernel_rfl) ?_ ?_
                 · rfl
                 simp only [Act.put, List.setIfInBounds_toArray, List.set_cons_zero, List.set_cons_succ])
            first
              | (refine h_run (i := 19) (v := ?_) hHeld rfl (by kernel_rfl) (by kernel_rfl) (by kernel_rfl) ?_ ?_ ?_
                 rotate_left
                 · rfl
                 · (intro x hSx; (try dsimp only at hSx); go_simp <;> with_reducible rfl)
                 simp only [Act.put, List.setIfInBounds_toArray, List.set_cons_zero, List.set_cons_succ])
              | (refine h_skip (i := 19) hHeld rfl (by kernel_rfl) (by kernel_rfl) (by kernel_rfl) ?_ ?_
                 · rfl
                 simp only [Act.put, List.setIfInBounds_toArray, List.set_cons_zero, List.set_cons_succ])
            first
              | (refine h_run (i := 20) (v := ?_) hHeld rfl (by kernel_rfl) (by kernel_rfl) (by kernel_rfl) ?_ ?_ ?_
                 rotate_left
                 · rfl
                 · (intro x hSx; (try dsimp only at hSx); go_simp <;> with_reducible rfl)
                 simp only [Act.put, List.setIfInBounds_toArray, List.set_cons_zero, List.set_cons_succ])
              | (refine h_skip (i := 20) hHeld rfl (by kernel_rfl) (by kernel_rfl) (by kernel_rfl) ?_ ?_
                 · rfl
                 simp only [Act.put, List.setIfInBounds_toArray, List.set_cons_zero, List.set_cons_succ])
            refine h_call (i := 10) (fun y : World => y.cell? ⟨g, 2 + i * 7, none⟩ = some (.int .i64 (S (2 + i * 7))) ∧ y.cell? ⟨g, 2 + i * 7 + 1, none⟩ = some (.int .i64 (S (2 + i * 7 + 1))) ∧ y.cell? ⟨g, 2 + i * 7 + 6, none⟩ = some (.int .i64 (S (2 + i * 7 + 6)))) (fun _ h => h) a1.out rfl (by kernel_rfl) rfl ?_ ?_
            · go_simp <;> with_reducible rfl
            rintro _ y ⟨rfl, rfl⟩
            refine ⟨_, rfl, hHeld, ?_⟩
            refine h_call (i := 15) (fun y : World => y.cell? ⟨g, 2 + i * 7, none⟩ = some (.int .i64 (S (2 + i * 7))) ∧ y.cell? ⟨g, 2 + i * 7 + 1, none⟩ = some (.int .i64 (S (2 + i * 7 + 1))) ∧ y.cell? ⟨g, 2 + i * 7 + 6, none⟩ = some (.int .i64 (S (2 + i * 7 + 6)))) (fun _ h => h) l1.out rfl (by kernel_rfl) rfl ?_ ?_
            · go_simp <;> with_reducible rfl
            rintro _ y ⟨rfl, rfl⟩
            refine ⟨_, rfl, hHeld, ?_⟩
            first
              | (refine h_run (i := 16) (v := ?_) hHeld rfl (by kernel_rfl) (by kernel_rfl) (by kernel_rfl) ?_ ?_ ?_
                 rotate_left
                 · rfl
                 · (intro x hSx; (try dsimp only at hSx); go_simp <;> with_reducible rfl)
                 simp only [Act.put, List.setIfInBounds_toArray, List.set_cons_zero, List.set_cons_succ])
              | (refine h_skip (i := 16) hHeld rfl (by kernel_rfl) (by kernel_rfl) (by kernel_rfl) ?_ ?_
                 · rfl
                 simp only [Act.put, List.setIfInBounds_toArray, List.set_cons_zero, List.set_cons_succ])
            first
              | (refine h_run (i := 18) (v := ?_) hHeld rfl (by kernel_rfl) (by kernel_rfl) (by kernel_rfl) ?_ ?_ ?_
                 rotate_left
                 · rfl
                 · (intro x hSx; (try dsimp only at hSx); go_simp <;> with_reducible rfl)
                 simp only [Act.put, List.setIfInBounds_toArray, List.set_cons_zero, List.set_cons_succ])
              | (refine h_skip (i := 18) hHeld rfl (by kernel_rfl) (by kernel_rfl) (by kernel_rfl) ?_ ?_
                 · rfl
                 simp only [Act.put, List.setIfInBounds_toArray, List.set_cons_zero, List.set_cons_succ])
            first
              | (refine h_run (i := 21) (v := ?_) hHeld rfl (by kernel_rfl) (by kernel_rfl) (by kernel_rfl) ?_ ?_ ?_
                 rotate_left
                 · rfl
                 · (intro x hSx; (try dsimp only at hSx); go_simp <;> with_reducible rfl)
                 simp only [Act.put, List.setIfInBounds_toArray, List.set_cons_zero, List.set_cons_succ])
              | (refine h_skip (i := 21) hHeld rfl (by kernel_rfl) (by kernel_rfl) (by kernel_rfl) ?_ ?_
                 · rfl
                 simp only [Act.put, List.setIfInBounds_toArray, List.set_cons_zero, List.set_cons_succ])
            have hs := Lib.hid (hd.out.shot hk8 true (S (2 + i * 7)) (satZ (S (2 + i * 7 + 1) + 65536)) (clampZ (S (2 + i * 7 + 6)) (-1) 1 * 393216) (i : Nat) 60)
            have hg := Lib.hid (only_setCells (only_drew (only_refl w (some g))) [.bool true, .int .i64 (S (2 + i * 7)), .int .i64 (satZ (S (2 + i * 7 + 1) + 65536)), .int .i64 (clampZ (S (2 + i * 7 + 6)) (-1) 1 * 393216), .int .i64 (i : Nat), .int .i64 60] (16 + k * 6))
            have hst : (Instr.storeAt 45 (.pointer (some ⟨g, 16 + k * 6, none⟩)) (.agg #[.bool true, .int .i64 (S (2 + i * 7)), .int .i64 (satZ (S (2 + i * 7 + 1) + 65536)), .int .i64 (clampZ (S (2 + i * 7 + 6)) (-1) 1 * 393216), .int .i64 (i : Nat), .int .i64 60])).run Try.prog w.drew = .ok () (w.drew.setCells g (16 + k * 6) [.bool true, .int .i64 (S (2 + i * 7)), .int .i64 (satZ (S (2 + i * 7 + 1) + 65536)), .int .i64 (clampZ (S (2 + i * 7 + 6)) (-1) 1 * 393216), .int .i64 (i : Nat), .int .i64 60]) := run_storeAt_mid w.drew g (16 + k * 6) _ _ (hd.out.there (by show 16 + k * 6 + 6 ≤ 66; omega)) shot_info (by simp [Value.oneCell'])
            refine h_write (i := 22) (w' := w.drew.setCells g (16 + k * 6) [.bool true, .int .i64 (S (2 + i * 7)), .int .i64 (satZ (S (2 + i * 7 + 1) + 65536)), .int .i64 (clampZ (S (2 + i * 7 + 6)) (-1) 1 * 393216), .int .i64 (i : Nat), .int .i64 60]) (fun y : World => True ∧ y.cell? ⟨g, 2 + i * 7, none⟩ = some (.int .i64 (S (2 + i * 7))) ∧ y.cell? ⟨g, 2 + i * 7 + 1, none⟩ = some (.int .i64 (S (2 + i * 7 + 1))) ∧ y.cell? ⟨g, 2 + i * 7 + 6, none⟩ = some (.int .i64 (S (2 + i * 7 + 6)))) (fun _ h => h.2) rfl (by kernel_rfl) rfl ?_ ?_ ?_
            · exact exec_store (.tmp 59) (.tmp 56) _ rfl rfl rfl hst
            · have hne : ∀ j, j < 7 → setShot S k true (S (2 + i * 7)) (satZ (S (2 + i * 7 + 1) + 65536)) (clampZ (S (2 + i * 7 + 6)) (-1) 1 * 393216) (i : Nat) 60 (2 + i * 7 + j) = S (2 + i * 7 + j) := fun j hj => by
                unfold setShot
                rw [setS_ne _ _ (by omega), setS_ne _ _ (by omega), setS_ne _ _ (by omega), setS_ne _ _ (by omega), setS_ne _ _ (by omega), setS_ne _ _ (by omega)]
              have c0 := hs.out.int (o := 2 + i * 7) (by omega) (kq 0 (by omega))
              have c1 := hs.out.int (o := 2 + i * 7 + 1) (by omega) (kq 1 (by omega))
              have c6 := hs.out.int (o := 2 + i * 7 + 6) (by omega) (kq 6 (by omega))
              have h00 := hne 0 (by decide)
              simp only [Nat.add_zero] at h00
              rw [h00] at c0
              rw [hne 1 (by decide)] at c1
              rw [hne 6 (by decide)] at c6
              exact ⟨trivial, c0, c1, c6⟩
            refine h_done (by kernel_rfl) ?_
            have f5 := hs.out.fr (2 + i * 7 + 5)
            have c5 := hs.out.int (o := 2 + i * 7 + 5) (by omega) (kq 5 (by omega))
            have e9 : Hid (GPost w g (fireF i x S) (.returned (.tuple #[])) ((w.drew.setCells g (16 + k * 6) [.bool true, .int .i64 (S (2 + i * 7)), .int .i64 (satZ (S (2 + i * 7 + 1) + 65536)), .int .i64 (clampZ (S (2 + i * 7 + 6)) (-1) 1 * 393216), .int .i64 (i : Nat), .int .i64 60]).setCell ⟨g, 2 + i * 7 + 5, none⟩ (.int .i64 15))) := hide (by
              rw [eh.out]
              refine ⟨?_, ?_, ?_⟩
              · rfl
              · exact hs.out.set (by omega) (kq 5 (by omega)) 15
              · exact only_set hg.out _ _)
            clear hHeld c0 c1 c6 a1 l1 hs hg hst hd cOn
            generalize World.setCells _ _ _ _ = w3 at *
            go_wp2_with fail
            go_end0
            exact e9.out
          · have b1 : decide (S (16 + k * 6) ≠ 0) = true := by simp [hf]
            rw [b1] at cOn
            have hall2 : Hid (∀ j, j < k + 1 → S (16 + j * 6) ≠ 0) := hide (fun j hj => by
              by_cases e : j = k
              · subst e; exact hf
              · exact hallh.out j (by omega))
            go_wp2_with fail
            go_roundw
            case rel => exact ⟨k + 1, by omega, by go_num, by trivial, hall2.out⟩
            case measure => simp [intOf]; omega
        · obtain rfl : k = 8 := by omega
          have e2 := Lib.hid (free_none hallh.out)
          have e3 := e.out
          rw [e2.out] at e3
          simp only at e3
          have e9 : Hid (GPost w g (fireF i x S) (.returned (.tuple #[])) w) := hide (by
            rw [e3]; exact ⟨rfl, hh.out, only_refl w _⟩)
          go_wp2_with fail
          go_end0
          exact e9.out
end Go.Proofs.Ytmfagdbocidfjaa

/- Whether a shot meets a body; a body at its beginning. Conditions: the numbers are 64-bit numbers. -/
namespace Go.Proofs.Ytmfagdbocidfjaa
open Go.RowKit
set_option maxRecDepth 100000 in
theorem results_row1 {P : Program} {fn : Func} {p : Tmp} {ty : TypeId} (h : fn.results = #[.cell p ty]) (tmps : Array Value) (w : World) (g : Nat) (t : TypeId) (cs : Array Value) (fr : Nat × Nat) (d : TypeDesc)
    (hp : tmps.getD p undef = .pointer (some ⟨g, 0, none⟩)) (hg : w.heap[g]? = some (.cells cs t fr))
    (hu : P.underlying ty = some d) (hd : (match d with | .struct _ | .array _ _ => true | _ => false) = true) (hi : (P.info? ty).map (·.size) = some cs.size) :
    (results fn tmps).run P w = .ok (.agg cs) w := by
  have hp' : tmps[p]?.getD undef = .pointer (some ⟨g, 0, none⟩) := by simpa using hp
  simp [results, h, hp', asAddr, Sem.run_bind, run_loadVar_row w g t ty cs fr d hg hu hd hi]
def hitZ (X Y BX BY : Int) : Bool := nearZ X BX 262144 && nearZ Y (satZ (BY + 65536)) 393216
set_option maxRecDepth 100000 in
theorem last0 (w : World) (o : Obj) (g : Nat) (h : g = w.heap.size) : (w.alloc o).heap[g]? = some o := by
  subst h
  show (w.heap.push o)[w.heap.size]? = _
  simp
set_option maxRecDepth 100000 in
theorem alloc0 (w : World) (o : Obj) (g : Nat) (x : Obj) (h : w.heap[g]? = some x) : (w.alloc o).heap[g]? = some x := by
  have hlt : g < w.heap.size := (Array.getElem?_eq_some_iff.1 h).1
  show (w.heap.push o)[g]? = _
  rw [Array.getElem?_push, if_neg (by omega)]
  exact h
set_option maxRecDepth 100000 in
theorem two_alloc (w : World) (A B : Obj) : ((w.alloc A).alloc B).heap[w.heap.size]? = some A ∧ ((w.alloc A).alloc B).heap[w.heap.size + 1]? = some B ∧ ((w.alloc A).alloc B).heap.size = w.heap.size + 2 ∧ Below w.heap.size w ((w.alloc A).alloc B) := by
  have s1 : ∀ (u : World) (o : Obj), (u.alloc o).heap.size = u.heap.size + 1 := fun u o => by show (u.heap.push _).size = _; rw [Array.size_push]
  exact ⟨alloc0 _ _ _ _ (last0 w A _ rfl), last0 _ B _ (s1 w A).symm, by rw [s1, s1], ((Below.refl _ _).alloc (Nat.le_refl _) _).alloc (by rw [s1]; omega) _⟩
attribute [local irreducible] stA fmulZ satZ clampZ nearZ
set_option maxRecDepth 100000 in
set_option maxHeartbeats 4000000 in
theorem g_hits (on : Bool) (X Y VX O F BX BY BVX BVY L C Fc : Int) (w : World) (hX : I64 X) (hY : I64 Y) (hBX : I64 BX) (hBY : I64 BY) :
    Calls Try.prog 80 #[.agg #[.bool on, .int .i64 X, .int .i64 Y, .int .i64 VX, .int .i64 O, .int .i64 F], .agg #[.int .i64 BX, .int .i64 BY, .int .i64 BVX, .int .i64 BVY, .int .i64 L, .int .i64 C, .int .i64 Fc]] w (fun e w' => e = .returned (.bool (hitZ X Y BX BY)) ∧ Below w.heap.size w w') := by
  obtain ⟨h0, h1, hs, hB⟩ := two_alloc w (.cells #[.bool on, .int .i64 X, .int .i64 Y, .int .i64 VX, .int .i64 O, .int .i64 F] 45) (.cells #[.int .i64 BX, .int .i64 BY, .int .i64 BVX, .int .i64 BVY, .int .i64 L, .int .i64 C, .int .i64 Fc] 42)
  have n1 := Lib.hid (fun y => f_near X BX 262144 y hX hBX)
  have a1 := Lib.hid (fun y => w_add BY 65536 y hBY (small_in (by decide) (by decide)))
  have n2 := Lib.hid (fun y => f_near Y (satZ (BY + 65536)) 393216 y hY (satZ_bd _))
  have c1 := (cell_of_block h0).trans (show #[Value.bool on, .int .i64 X, .int .i64 Y, .int .i64 VX, .int .i64 O, .int .i64 F][1]? = some (.int .i64 X) from rfl)
  have c2 := (cell_of_block h0).trans (show #[Value.bool on, .int .i64 X, .int .i64 Y, .int .i64 VX, .int .i64 O, .int .i64 F][2]? = some (.int .i64 Y) from rfl)
  have d0 := (cell_of_block h1).trans (show #[Value.int .i64 BX, .int .i64 BY, .int .i64 BVX, .int .i64 BVY, .int .i64 L, .int .i64 C, .int .i64 Fc][0]? = some (.int .i64 BX) from rfl)
  have d1 := (cell_of_block h1).trans (show #[Value.int .i64 BX, .int .i64 BY, .int .i64 BVX, .int .i64 BVY, .int .i64 L, .int .i64 C, .int .i64 Fc][1]? = some (.int .i64 BY) from rfl)
  have hBh := Lib.hid hB
  have hz : hitZ X Y BX BY = (nearZ X BX 262144 && nearZ Y (satZ (BY + 65536)) 393216) := rfl
  clear hX hY hBX hBY h0 h1 hs hB
  rcases hb : nearZ X BX 262144
  · rw [hb] at n1 hz
    rw [Bool.false_and] at hz
    rw [hz]
    clear hz hb n2 a1
    go_enter Try.func80, Try.ntmps80
    go_upto_region 1 with (fail)
    generalize World.alloc (World.alloc w _) _ = W at *
    go_quiet ((first | (go_at_call 96; exact Calls.quiet_of_same ((n1.out _).mono fun _ _ h => ⟨h.1, h.2.symm⟩))))
    go_wp2_with fail
    go_ret
    exact ⟨rfl, below_drewN hBh.out _⟩
  · rw [hb] at n1 hz
    rw [Bool.true_and] at hz
    rw [hz]
    clear hz hb
    generalize satZ (BY + 65536) = z at *
    go_enter Try.func80, Try.ntmps80
    go_upto_region 1 with (fail)
    generalize World.alloc (World.alloc w _) _ = W at *
    have hHeld : (fun y : World => y.cell? ⟨w.heap.size, 1, none⟩ = some (.int .i64 X) ∧ y.cell? ⟨w.heap.size, 2, none⟩ = some (.int .i64 Y) ∧ y.cell? ⟨w.heap.size + 1, 0, none⟩ = some (.int .i64 BX) ∧ y.cell? ⟨w.heap.size + 1, 1, none⟩ = some (.int .i64 BY)) W.drew := ⟨c1, c2, d0, d1⟩
    refine h_begin 14 (fun y : World => y.cell? ⟨w.heap.size, 1, none⟩ = some (.int .i64 X) ∧ y.cell? ⟨w.heap.size, 2, none⟩ = some (.int .i64 Y) ∧ y.cell? ⟨w.heap.size + 1, 0, none⟩ = some (.int .i64 BX) ∧ y.cell? ⟨w.heap.size + 1, 1, none⟩ = some (.int .i64 BY)) rfl (by kernel_rfl) hHeld ?_
    first
      | (refine h_run (i := 0) (v := ?_) hHeld rfl (by kernel_rfl) (by kernel_rfl) (by kernel_rfl) ?_ ?_ ?_
         rotate_left
         · rfl
         · (intro x hSx; (try dsimp only at hSx); go_simp <;> with_reducible rfl)
         simp only [Act.put, List.setIfInBounds_toArray, List.set_cons_zero, List.set_cons_succ])
      | (refine h_skip (i := 0) hHeld rfl (by kernel_rfl) (by kernel_rfl) (by kernel_rfl) ?_ ?_
         · rfl
         simp only [Act.put, List.setIfInBounds_toArray, List.set_cons_zero, List.set_cons_succ])
    first
      | (refine h_run (i := 1) (v := ?_) hHeld rfl (by kernel_rfl) (by kernel_rfl) (by kernel_rfl) ?_ ?_ ?_
         rotate_left
         · rfl
         · (intro x hSx; (try dsimp only at hSx); go_simp <;> with_reducible rfl)
         simp only [Act.put, List.setIfInBounds_toArray, List.set_cons_zero, List.set_cons_succ])
      | (refine h_skip (i := 1) hHeld rfl (by kernel_rfl) (by kernel_rfl) (by kernel_rfl) ?_ ?_
         · rfl
         simp only [Act.put, List.setIfInBounds_toArray, List.set_cons_zero, List.set_cons_succ])
    first
      | (refine h_run (i := 2) (v := ?_) hHeld rfl (by kernel_rfl) (by kernel_rfl) (by kernel_rfl) ?_ ?_ ?_
         rotate_left
         · rfl
         · (intro x hSx; (try dsimp only at hSx); go_simp <;> with_reducible rfl)
         simp only [Act.put, List.setIfInBounds_toArray, List.set_cons_zero, List.set_cons_succ])
      | (refine h_skip (i := 2) hHeld rfl (by kernel_rfl) (by kernel_rfl) (by kernel_rfl) ?_ ?_
         · rfl
         simp only [Act.put, List.setIfInBounds_toArray, List.set_cons_zero, List.set_cons_succ])
    first
      | (refine h_run (i := 3) (v := ?_) hHeld rfl (by kernel_rfl) (by kernel_rfl) (by kernel_rfl) ?_ ?_ ?_
         rotate_left
         · rfl
         · (intro x hSx; (try dsimp only at hSx); go_simp <;> with_reducible rfl)
         simp only [Act.put, List.setIfInBounds_toArray, List.set_cons_zero, List.set_cons_succ])
      | (refine h_skip (i := 3) hHeld rfl (by kernel_rfl) (by kernel_rfl) (by kernel_rfl) ?_ ?_
         · rfl
         simp only [Act.put, List.setIfInBounds_toArray, List.set_cons_zero, List.set_cons_succ])
    refine h_call (i := 4) (fun y : World => y.cell? ⟨w.heap.size, 1, none⟩ = some (.int .i64 X) ∧ y.cell? ⟨w.heap.size, 2, none⟩ = some (.int .i64 Y) ∧ y.cell? ⟨w.heap.size + 1, 0, none⟩ = some (.int .i64 BX) ∧ y.cell? ⟨w.heap.size + 1, 1, none⟩ = some (.int .i64 BY)) (fun _ h => h) (n1.out _) rfl (by kernel_rfl) rfl ?_ ?_
    · go_simp <;> with_reducible rfl
    rintro _ y ⟨rfl, rfl⟩
    refine ⟨_, rfl, hHeld, ?_⟩
    simp only [Act.put, List.setIfInBounds_toArray, List.set_cons_zero, List.set_cons_succ]
    first
      | (refine h_run (i := 5) (v := ?_) hHeld rfl (by kernel_rfl) (by kernel_rfl) (by kernel_rfl) ?_ ?_ ?_
         rotate_left
         · rfl
         · (intro x hSx; (try dsimp only at hSx); go_simp <;> with_reducible rfl)
         simp only [Act.put, List.setIfInBounds_toArray, List.set_cons_zero, List.set_cons_succ])
      | (refine h_skip (i := 5) hHeld rfl (by kernel_rfl) (by kernel_rfl) (by kernel_rfl) ?_ ?_
         · rfl
         simp only [Act.put, List.setIfInBounds_toArray, List.set_cons_zero, List.set_cons_succ])
    first
      | (refine h_run (i := 6) (v := ?_) hHeld rfl (by kernel_rfl) (by kernel_rfl) (by kernel_rfl) ?_ ?_ ?_
         rotate_left
         · rfl
         · (intro x hSx; (try dsimp only at hSx); go_simp <;> with_reducible rfl)
         simp only [Act.put, List.setIfInBounds_toArray, List.set_cons_zero, List.set_cons_succ])
      | (refine h_skip (i := 6) hHeld rfl (by kernel_rfl) (by kernel_rfl) (by kernel_rfl) ?_ ?_
         · rfl
         simp only [Act.put, List.setIfInBounds_toArray, List.set_cons_zero, List.set_cons_succ])
    first
      | (refine h_run (i := 7) (v := ?_) hHeld rfl (by kernel_rfl) (by kernel_rfl) (by kernel_rfl) ?_ ?_ ?_
         rotate_left
         · rfl
         · (intro x hSx; (try dsimp only at hSx); go_simp <;> with_reducible rfl)
         simp only [Act.put, List.setIfInBounds_toArray, List.set_cons_zero, List.set_cons_succ])
      | (refine h_skip (i := 7) hHeld rfl (by kernel_rfl) (by kernel_rfl) (by kernel_rfl) ?_ ?_
         · rfl
         simp only [Act.put, List.setIfInBounds_toArray, List.set_cons_zero, List.set_cons_succ])
    first
      | (refine h_run (i := 8) (v := ?_) hHeld rfl (by kernel_rfl) (by kernel_rfl) (by kernel_rfl) ?_ ?_ ?_
         rotate_left
         · rfl
         · (intro x hSx; (try dsimp only at hSx); go_simp <;> with_reducible rfl)
         simp only [Act.put, List.setIfInBounds_toArray, List.set_cons_zero, List.set_cons_succ])
      | (refine h_skip (i := 8) hHeld rfl (by kernel_rfl) (by kernel_rfl) (by kernel_rfl) ?_ ?_
         · rfl
         simp only [Act.put, List.setIfInBounds_toArray, List.set_cons_zero, List.set_cons_succ])
    first
      | (refine h_run (i := 9) (v := ?_) hHeld rfl (by kernel_rfl) (by kernel_rfl) (by kernel_rfl) ?_ ?_ ?_
         rotate_left
         · rfl
         · (intro x hSx; (try dsimp only at hSx); go_simp <;> with_reducible rfl)
         simp only [Act.put, List.setIfInBounds_toArray, List.set_cons_zero, List.set_cons_succ])
      | (refine h_skip (i := 9) hHeld rfl (by kernel_rfl) (by kernel_rfl) (by kernel_rfl) ?_ ?_
         · rfl
         simp only [Act.put, List.setIfInBounds_toArray, List.set_cons_zero, List.set_cons_succ])
    refine h_call (i := 10) (fun y : World => y.cell? ⟨w.heap.size, 1, none⟩ = some (.int .i64 X) ∧ y.cell? ⟨w.heap.size, 2, none⟩ = some (.int .i64 Y) ∧ y.cell? ⟨w.heap.size + 1, 0, none⟩ = some (.int .i64 BX) ∧ y.cell? ⟨w.heap.size + 1, 1, none⟩ = some (.int .i64 BY)) (fun _ h => h) (a1.out _) rfl (by kernel_rfl) rfl ?_ ?_
    · go_simp <;> with_reducible rfl
    rintro _ y ⟨rfl, rfl⟩
    refine ⟨_, rfl, hHeld, ?_⟩
    simp only [Act.put, List.setIfInBounds_toArray, List.set_cons_zero, List.set_cons_succ]
    refine h_call (i := 11) (fun y : World => y.cell? ⟨w.heap.size, 1, none⟩ = some (.int .i64 X) ∧ y.cell? ⟨w.heap.size, 2, none⟩ = some (.int .i64 Y) ∧ y.cell? ⟨w.heap.size + 1, 0, none⟩ = some (.int .i64 BX) ∧ y.cell? ⟨w.heap.size + 1, 1, none⟩ = some (.int .i64 BY)) (fun _ h => h) (n2.out _) rfl (by kernel_rfl) rfl ?_ ?_
    · go_simp <;> with_reducible rfl
    rintro _ y ⟨rfl, rfl⟩
    refine ⟨_, rfl, hHeld, ?_⟩
    simp only [Act.put, List.setIfInBounds_toArray, List.set_cons_zero, List.set_cons_succ]
    first
      | (refine h_run (i := 12) (v := ?_) hHeld rfl (by kernel_rfl) (by kernel_rfl) (by kernel_rfl) ?_ ?_ ?_
         rotate_left
         · rfl
         · (intro x hSx; (try dsimp only at hSx); go_simp <;> with_reducible rfl)
         simp only [Act.put, List.setIfInBounds_toArray, List.set_cons_zero, List.set_cons_succ])
      | (refine h_skip (i := 12) hHeld rfl (by kernel_rfl) (by kernel_rfl) (by kernel_rfl) ?_ ?_
         · rfl
         simp only [Act.put, List.setIfInBounds_toArray, List.set_cons_zero, List.set_cons_succ])
    first
      | (refine h_run (i := 13) (v := ?_) hHeld rfl (by kernel_rfl) (by kernel_rfl) (by kernel_rfl) ?_ ?_ ?_
         rotate_left
         · rfl
         · (intro x hSx; (try dsimp only at hSx); go_simp <;> with_reducible rfl)
         simp only [Act.put, List.setIfInBounds_toArray, List.set_cons_zero, List.set_cons_succ])
      | (refine h_skip (i := 13) hHeld rfl (by kernel_rfl) (by kernel_rfl) (by kernel_rfl) ?_ ?_
         · rfl
         simp only [Act.put, List.setIfInBounds_toArray, List.set_cons_zero, List.set_cons_succ])
    refine h_done (by kernel_rfl) ?_
    go_wp2_with fail
    go_ret
    exact ⟨rfl, below_drewN hBh.out _⟩
def bornA (i : Nat) : Array Value := #[.int .i64 (if i = 1 then 9830400 else 3276800), .int .i64 0, .int .i64 0, .int .i64 0, .int .i64 100, .int .i64 0, .int .i64 (if i = 1 then -1 else 1)]
set_option maxRecDepth 100000 in
set_option maxHeartbeats 4000000 in
theorem g_born (i : Nat) (hi : i < 2) (w : World) :
    Calls Try.prog 41 #[.int .i64 (i : Nat)] w (fun e w' => e = .returned (.agg (bornA i)) ∧ Below w.heap.size w w') := by
  rcases (show i = 0 ∨ i = 1 by omega) with rfl | rfl
  · go_enter Try.func41, Try.ntmps41
    go_wp2_with fail
    refine bodyPost_ret (v := .agg (bornA 0)) (results_row1 rfl _ _ w.heap.size _ (bornA 0) (0, 0) _ rfl (two_alloc w (.cells (bornA 0) 42) (.cells (bornA 0) 42)).1 Try.underlying42 rfl body_info) rfl ⟨rfl, (two_alloc w _ _).2.2.2⟩
  · go_enter Try.func41, Try.ntmps41
    go_wp2_with fail
    refine bodyPost_ret (v := .agg (bornA 1)) (results_row1 rfl _ _ w.heap.size _ (bornA 1) (0, 0) _ rfl (two_alloc w (.cells (bornA 1) 42) (.cells (bornA 1) 42)).1 Try.underlying42 rfl body_info) rfl ⟨rfl, (two_alloc w _ _).2.2.2⟩
end Go.Proofs.Ytmfagdbocidfjaa
