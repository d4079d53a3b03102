/- ShakeMeets: lemmas about the two ends. -/
import Derived.Test.YtdpngimcmohmaaaShMt2
import Derived.Test.YtdpngimcmohmaaaHPush
import Derived.Test.YtdpngimcmohmaaaWShakePlays
import Derived.Deep.QuietTactic
import Derived.Deep.DeepCutAuto
import Derived.IntWalk
namespace Go.Proofs.Ytdpngimcmohmaaa
open Go.RowKit
set_option maxRecDepth 100000 in
theorem u32_range {a : Int} (h : (Lit.int .u32 a).wf = true) : 0 ≤ a ∧ a < 4294967296 := by
  have h : IntKind.u32.min ≤ a ∧ a ≤ IntKind.u32.max := by simpa [Lit.wf] using h
  have h1 : IntKind.u32.min = 0 := by decide
  have h2 : IntKind.u32.max = 4294967295 := by decide
  omega
/-- the state behind a start -/
def e1S (s : ShS) : ShS := { s with st := 1, k := s.k + 1, q := 0 }
set_option maxRecDepth 100000 in
theorem e1S_b {s : ShS} (h : ShB s 0) (h0 : s.st = 0) (hr : s.rd = 0) : ShB (e1S s) 1 ∧ (e1S s).st = 1 := by
  have hsb := h.start (fun _ => by omega)
  unfold shStart at hsb
  rw [if_pos h0] at hsb
  exact ⟨hsb.mono (by omega), rfl⟩
/-- where the ends stand at first -/
def e0S (a b : Int) (j : Nat) : ShS := if j = 0 then ⟨0, a, 0, 0, 0, 0⟩ else ⟨0, b, 0, 0, 0, 0⟩
set_option maxRecDepth 100000 in
theorem e0S_b {a b : Int} (ha : 0 ≤ a ∧ a < 4294967296) (hb : 0 ≤ b ∧ b < 4294967296) (j : Nat) : ShB (e0S a b j) 0 ∧ (e0S a b j).st = 0 ∧ (e0S a b j).rd = 0 := by
  unfold e0S
  split
  · exact ⟨⟨ha.1, ha.2, by simp, by simp, by simp, by simp, by simp, by simp, by simp⟩, rfl, rfl⟩
  · exact ⟨⟨hb.1, hb.2, by simp, by simp, by simp, by simp, by simp, by simp, by simp⟩, rfl, rfl⟩
/-- the first loop's word about the ends -/
def StOk (e : Nat → ShS) (k : Nat) : Prop := ∀ j, j < 2 → (j < k → ShB (e j) 1 ∧ (e j).st = 1) ∧ (k ≤ j → ShB (e j) 0 ∧ (e j).st = 0 ∧ (e j).rd = 0)
set_option maxRecDepth 100000 in
theorem StOk.next {e : Nat → ShS} {k : Nat} (h : StOk e k) (hk : k < 2) : StOk (upd e k (e1S (e k))) (k + 1) := fun j hj => by
  by_cases hjk : j = k
  · subst hjk
    rw [upd_same]
    obtain ⟨h1, h2, h3⟩ := (h j hj).2 (Nat.le_refl _)
    exact ⟨fun _ => e1S_b h1 h2 h3, fun h => absurd h (by omega)⟩
  · rw [upd_ne _ _ hjk]
    exact ⟨fun h1 => (h j hj).1 (by omega), fun h1 => (h j hj).2 (by omega)⟩
/-- both ends go on, their numbers in their bounds -/
def GdOk (e : Nat → ShS) (c : Int) : Prop := ∀ j, j < 2 → ShB (e j) c ∧ shAlive (e j)
set_option maxRecDepth 100000 in
theorem GdOk.g {e : Nat → ShS} {c : Int} (h : GdOk e c) {i : Nat} (hi : i < 2) : ShG (e i) := ⟨(h i hi).2, (h i hi).1.q1, (h i hi).1.q2⟩
set_option maxRecDepth 100000 in
theorem GdOk.mono {e : Nat → ShS} {c d : Int} (h : GdOk e c) (hd : c ≤ d) : GdOk e d := fun j hj => ⟨(h j hj).1.mono hd, (h j hj).2⟩
set_option maxRecDepth 100000 in
theorem take_kind (s : ShS) (a b : Int) : (shTake s 1 a b).2.2.1 = true → (shTake s 1 a b).2.1.1 = 1 := by
  unfold shTake
  split
  · intro h; cases h
  split
  · intro h; cases h
  split
  · intro _; rfl
  split
  · intro h; cases h
  split
  · intro _; rfl
  · intro h; cases h
set_option maxRecDepth 100000 in
theorem len_pop (Q : Nat → List Msg) {i : Nat} (hi : i < 2) {x : Msg} {l : List Msg} (h : Q i = x :: l) : (upd Q i l 0).length + (upd Q i l 1).length + 1 = (Q 0).length + (Q 1).length := by
  rcases two_cases hi with rfl | rfl <;> simp [upd, h] <;> omega
set_option maxRecDepth 100000 in
theorem upd_block {v : Nat → Value} {i tx : Nat} {s : Option Addr} {n c : Nat} (h : ∀ o, o < 2 → (v o).ownBlock ≠ some tx) (hq : (Value.slice s n c).ownBlock ≠ some tx) : ∀ o, o < 2 → (upd v i (.slice s n c) o).ownBlock ≠ some tx := fun o ho => by
  by_cases hoi : o = i
  · subst hoi; rw [upd_same]; exact hq
  · rw [upd_ne _ _ hoi]; exact h o ho
set_option maxRecDepth 100000 in
theorem tick_kind (s : ShS) : (shTick s).2.2 = true → (shTick s).2.1.1 = 1 := by
  unfold shTick
  split
  · intro h; cases h
  · split
    · intro h; cases h
    · intro _; rfl
set_option maxRecDepth 100000 in
theorem tick_alive {s : ShS} (h : shAlive s) : shAlive (shTick s).1 := by
  unfold shTick
  split
  · exact h
  · split <;> exact h
set_option maxRecDepth 100000 in
theorem GdOk.upd {e : Nat → ShS} {c : Int} (h : GdOk e c) {i : Nat} {s : ShS} (hs : ShB s (c + 1)) (ha : shAlive s) : GdOk (upd e i s) (c + 1) := fun j hj => by
  by_cases hji : j = i
  · subst hji; rw [upd_same]; exact ⟨hs, ha⟩
  · rw [upd_ne _ _ hji]; exact ⟨(h j hj).1.mono (by omega), (h j hj).2⟩
set_option maxRecDepth 100000 in
theorem GdOk.tick {e : Nat → ShS} {c : Int} (h : GdOk e c) {i : Nat} (hi : i < 2) : GdOk (Go.Proofs.Ytdpngimcmohmaaa.upd e i (shTick (e i)).1) (c + 1) := h.upd (h i hi).1.tick (tick_alive (h i hi).2)
set_option maxRecDepth 100000 in
theorem GdOk.take {e : Nat → ShS} {c : Int} (h : GdOk e c) {i : Nat} (hi : i < 2) (x a b : Int) : GdOk (Go.Proofs.Ytdpngimcmohmaaa.upd e i (shTake (e i) x a b).1) (c + 1) := h.upd ((h i hi).1.take x a b) (by
  have ha := (h i hi).2
  unfold shTake
  split
  · exact ha
  split
  · exact ha
  split
  · exact ha
  split
  · exact ha
  split
  · exact ha
  · exact .inr rfl)
set_option maxRecDepth 100000 in
theorem len_push (Q : Nat → List Msg) {o : Nat} (ho : o < 2) (x : Msg) : (upd Q o (Q o ++ [x]) 0).length + (upd Q o (Q o ++ [x]) 1).length = (Q 0).length + (Q 1).length + 1 := by
  rcases two_cases ho with rfl | rfl <;> simp [upd] <;> omega
set_option maxRecDepth 100000 in
theorem s_take_m (p : Nat) (s : ShS) (a b : Int) (hok : ShOk s) : ∀ y, ShAt y p s → Calls Try.prog 12 #[.pointer (some ⟨p, 0, none⟩), .agg (dgmA 1 a b)] y (ShPost y p (shTake s 1 a b).1 (.tuple #[dV (shTake s 1 a b).2.1, .bool (shTake s 1 a b).2.2.1, .int .i64 (shTake s 1 a b).2.2.2])) := fun y hy =>
  s_take p s ⟨1, 0, 0, 0, 0, a, b, 0, 0, 0, .slice none 0 0⟩ y hy hok
end Go.Proofs.Ytdpngimcmohmaaa
