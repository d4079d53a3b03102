/- What the law's script does to the state, in plain terms, and the bounds of its numbers. No walk. -/
import Derived.Test.YtdpngimcmohmaaaShTake
namespace Go.Proofs.Ytdpngimcmohmaaa
open Go.RowKit
def tickN : Nat → ShS → ShS
  | 0, s => s
  | n + 1, s => (shTick (tickN n s)).1
/-- a call of the law's script -/
structure OpS where
  kind : Int
  d : DgS
  n : Int
def opA (o : OpS) : Array Value := #[.int .i64 o.kind, .int .i64 o.d.kind, .int .u32 o.d.ses, .int .u32 o.d.seq, .int .i64 o.d.path, .int .u32 o.d.tick, .int .u32 o.d.a, .int .u32 o.d.b, .int .i64 o.d.kk, .int .i64 o.d.m, .int .i64 o.d.ix, o.d.data, .int .i64 o.n]
def doS (s : ShS) (o : OpS) : ShS :=
  if o.kind = 0 then (shStart s).1
  else if o.kind = 2 then (shTake s o.d.kind o.d.a o.d.b).1
  else if o.kind = 3 then { s with st := 3 }
  else if o.kind = 4 then (shTake s 1 0 (tokZ s.own s.rd)).1
  else if o.kind = 5 then tickN (min o.n 40).toNat s
  else if o.kind = 1 then tickN 1 s
  else s
structure ShB (s : ShS) (c : Int) : Prop where
  o1 : 0 ≤ s.own
  o2 : s.own < 4294967296
  r1 : 0 ≤ s.rd
  r2 : s.rd ≤ 4
  r3 : s.st = 1 → s.rd ≤ 3
  q1 : 0 ≤ s.q
  q2 : s.q ≤ 9
  k1 : 0 ≤ s.k
  k2 : s.k ≤ c
set_option maxRecDepth 100000 in
theorem ShB.ok {s : ShS} {c : Int} (h : ShB s c) (hc : c ≤ 1000000) : ShOk s := by
  obtain ⟨o1, o2, r1, r2, r3, q1, q2, k1, k2⟩ := h
  exact ⟨o1, o2, r1, by omega, q1, by omega, k1, by omega⟩
set_option maxRecDepth 100000 in
theorem ShB.mono {s : ShS} {c d : Int} (h : ShB s c) (hc : c ≤ d) : ShB s d := { h with k2 := by have := h.k2; omega }
set_option maxRecDepth 100000 in
theorem ShB.tick {s : ShS} {c : Int} (h : ShB s c) : ShB (shTick s).1 (c + 1) := by
  obtain ⟨o1, o2, r1, r2, r3, q1, q2, k1, k2⟩ := h
  unfold shTick
  split
  · exact ⟨o1, o2, r1, r2, r3, q1, q2, k1, by show s.k ≤ c + 1; omega⟩
  · split
    · exact ⟨o1, o2, r1, r2, r3, by simp; omega, by simp; omega, k1, by simp; omega⟩
    · exact ⟨o1, o2, r1, r2, r3, by simp, by simp, by simp; omega, by simp; omega⟩
set_option maxRecDepth 100000 in
theorem ShB.tickN {s : ShS} {c : Int} (h : ShB s c) (n : Nat) : ShB (tickN n s) (c + n) := by
  induction n with
  | zero => exact h.mono (by omega)
  | succ n ih => exact ih.tick.mono (by omega)
set_option maxRecDepth 100000 in
theorem ShB.start {s : ShS} {c : Int} (h : ShB s c) (h0 : s.st = 0 → s.rd ≤ 3) : ShB (shStart s).1 (c + 1) := by
  obtain ⟨o1, o2, r1, r2, r3, q1, q2, k1, k2⟩ := h
  unfold shStart
  split
  · rename_i hs
    exact ⟨o1, o2, r1, r2, fun _ => h0 hs, by simp, by simp, by simp; omega, by simp; omega⟩
  · exact ⟨o1, o2, r1, r2, r3, q1, q2, k1, by simp; omega⟩
set_option maxRecDepth 100000 in
theorem ShB.take {s : ShS} {c : Int} (h : ShB s c) (x y z : Int) : ShB (shTake s x y z).1 (c + 1) := by
  obtain ⟨o1, o2, r1, r2, r3, q1, q2, k1, k2⟩ := h
  unfold shTake
  split
  · exact ⟨o1, o2, r1, r2, r3, q1, q2, k1, by simp; omega⟩
  split
  · exact ⟨o1, o2, r1, r2, r3, q1, q2, k1, by simp; omega⟩
  rename_i h1 h2
  split
  · exact ⟨o1, o2, r1, r2, r3, q1, q2, k1, by simp; omega⟩
  split
  · exact ⟨o1, o2, r1, r2, r3, q1, q2, k1, by simp; omega⟩
  rename_i h3 h4
  have hst : s.st = 1 := by
    by_cases e : s.st = 1
    · exact e
    · exfalso
      refine h2 ⟨e, fun e2 => h4 (.inl e2)⟩
  have := r3 hst
  split
  · rename_i h5
    exact ⟨o1, o2, by simp; omega, by simp; omega, fun _ => by simp; omega, by simp, by simp, by simp; omega, by simp; omega⟩
  · exact ⟨o1, o2, by simp; omega, by simp; omega, fun e => by simp at e, q1, q2, k1, by simp; omega⟩
/-- nothing comes back to the beginning -/
def ShZ (s : ShS) : Prop := s.st = 0 → s.rd ≤ 3
set_option maxRecDepth 100000 in
theorem ShZ.tick {s : ShS} (h : ShZ s) : ShZ (shTick s).1 := by
  unfold shTick ShZ
  split
  · exact h
  · split <;> exact h
set_option maxRecDepth 100000 in
theorem ShZ.tickN {s : ShS} (h : ShZ s) (n : Nat) : ShZ (tickN n s) := by
  induction n with
  | zero => exact h
  | succ n ih => exact ih.tick
set_option maxRecDepth 100000 in
theorem ShZ.start {s : ShS} (h : ShZ s) : ShZ (shStart s).1 := by
  unfold shStart ShZ
  split
  · intro e; simp at e
  · exact h
set_option maxRecDepth 100000 in
theorem ShZ.take {s : ShS} (h : ShZ s) (x y z : Int) : ShZ (shTake s x y z).1 := by
  unfold shTake
  split
  · exact h
  split
  · exact h
  rename_i h1 h2
  split
  · exact h
  split
  · exact h
  split
  · intro e
    exact absurd e (by simp; intro e0; exact h2 ⟨by omega, by omega⟩)
  · intro e; simp at e
set_option maxRecDepth 100000 in
theorem ShB.do {s : ShS} {c : Int} (h : ShB s c) (hz : ShZ s) (o : OpS) : ShB (doS s o) (c + 40) := by
  unfold doS
  split
  · exact (h.start hz).mono (by omega)
  split
  · exact (h.take _ _ _).mono (by omega)
  split
  · obtain ⟨o1, o2, r1, r2, r3, q1, q2, k1, k2⟩ := h
    exact ⟨o1, o2, r1, r2, fun e => by simp at e, q1, q2, k1, by simp; omega⟩
  split
  · exact (h.take _ _ _).mono (by omega)
  split
  · exact (h.tickN _).mono (by omega)
  split
  · exact (h.tickN _).mono (by omega)
  · exact h.mono (by omega)
set_option maxRecDepth 100000 in
theorem ShZ.do {s : ShS} (h : ShZ s) (o : OpS) : ShZ (doS s o) := by
  unfold doS
  split
  · exact h.start
  split
  · exact h.take _ _ _
  split
  · intro e; simp at e
  split
  · exact h.take _ _ _
  split
  · exact h.tickN _
  split
  · exact h.tickN _
  · exact h
end Go.Proofs.Ytdpngimcmohmaaa
