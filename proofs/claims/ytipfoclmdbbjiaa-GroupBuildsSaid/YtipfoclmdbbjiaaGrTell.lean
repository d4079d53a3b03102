import Derived.Test.YtipfoclmdbbjiaaU28
/- The builder's Waiting, Frames and Groups. Conditions: the builder's block. -/
namespace Go.Proofs.Ytipfoclmdbbjiaa
open Go.RowKit
attribute [local irreducible] IsGf
set_option maxRecDepth 100000 in
set_option maxHeartbeats 1000000 in
theorem b_waiting (bp tb cp base : Nat) (s : GbS) (v : Value) (w : World) (hb : BAt w bp tb cp base s v) :
    Calls Try.prog 16 #[.pointer (some ⟨bp, 0, none⟩)] w fun e w' => e = .returned (.int .i64 (s.n : Nat)) ∧ w = w' := by
  obtain ⟨sv, cv, rfl⟩ := hb.own.form
  have c7 : w.cell? ⟨bp, 7, none⟩ = some (.slice sv s.n cv) := hb.cells 7 _ rfl
  clear hb
  go_enter Try.func16, Try.ntmps16
  go_wp2_with fail
  go_ret
  exact ⟨rfl, rfl⟩
set_option maxRecDepth 100000 in
set_option maxHeartbeats 1000000 in
theorem b_groups (bp tb cp base : Nat) (s : GbS) (v : Value) (w : World) (hb : BAt w bp tb cp base s v) (hn : s.no < 4294967296) :
    Calls Try.prog 18 #[.pointer (some ⟨bp, 0, none⟩)] w fun e w' => e = .returned (.int .i64 (s.no : Nat)) ∧ w = w' := by
  have c4 : w.cell? ⟨bp, 4, none⟩ = some (.int .u32 (s.no : Nat)) := hb.cells 4 _ rfl
  have hw : IntKind.i64.wrap ((s.no : Nat) : Int) = ((s.no : Nat) : Int) := IntWalk.i64_in _ (by omega)
  clear hb
  go_enter Try.func18, Try.ntmps18
  go_wp2_with fail
  go_ret
  exact ⟨rfl, rfl⟩
set_option maxRecDepth 100000 in
set_option maxHeartbeats 1000000 in
theorem b_frames (bp tb cp base : Nat) (s : GbS) (v : Value) (w : World) (hb : BAt w bp tb cp base s v) (hn : s.fi < 4294967296) (h16 : s.n ≤ 16) :
    Calls Try.prog 17 #[.pointer (some ⟨bp, 0, none⟩)] w fun e w' => e = .returned (.int .i64 ((s.fi + s.n : Nat) : Int)) ∧ Below w.heap.size w w' := by
  obtain ⟨sv, cv, rfl⟩ := hb.own.form
  have c5 : w.cell? ⟨bp, 5, none⟩ = some (.int .u32 (s.fi : Nat)) := hb.cells 5 _ rfl
  have c7 : w.cell? ⟨bp, 7, none⟩ = some (.slice sv s.n cv) := hb.cells 7 _ rfl
  have hw : IntKind.i64.wrap ((s.fi : Nat) : Int) = ((s.fi : Nat) : Int) := IntWalk.i64_in _ (by omega)
  clear hb
  go_enter Try.func17, Try.ntmps17
  go_upto_region 1 with (fail)
  go_quiet (fail)
  go_wp2_with fail
  go_ret
  exact ⟨by simp, below_drewN (Below.refl _ _) _⟩
end Go.Proofs.Ytipfoclmdbbjiaa
