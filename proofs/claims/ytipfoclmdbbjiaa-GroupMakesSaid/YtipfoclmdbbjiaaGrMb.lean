import Derived.Test.YtipfoclmdbbjiaaU20
import Derived.Test.YtipfoclmdbbjiaaGrDs
import Derived.Test.YtipfoclmdbbjiaaGrIt
/- Both Makes in one: what they answer at any input. Conditions: what the inputs read as. -/
namespace Go.Proofs.Ytipfoclmdbbjiaa
open Go.RowKit
/-- a group that comes back, or none -/
def UPost (W : World) (no fi K m : Int) (L : Nat) (D : Nat → Nat → Nat) (x : Value) (e : Ending) (W' : World) : Prop :=
  ∃ s cap, e = .returned (.tuple #[.agg #[.int .u32 no, .int .u32 fi, .int .i64 K, .int .i64 m, .slice s L cap], x]) ∧ OwnS W' W.heap.size (.slice s L cap) L 2 D ∧ Below W.heap.size W W'
set_option maxRecDepth 100000 in
theorem mk_both (no fi m : Int) (n : Nat) (I : Nat → Nat) (si : Option Addr) (ci : Nat) (hI : ∀ j, I j < 65536) :
    ∃ (no' fi' K' m' : Int) (L : Nat) (D : Nat → Nat → Nat) (err : Int) (ok : Bool),
      (∀ y p, IsGf y p → ZAt y .u16 si n (fun i => (I i : Nat)) → Calls Try.prog 21 #[.pointer (some ⟨p, 0, none⟩), .int .u32 no, .int .u32 fi, .int .i64 m, .slice si n ci] y (UPost y no' fi' K' m' L D (.int .i64 err))) ∧
      (∀ y, ZAt y .u16 si n (fun i => (I i : Nat)) → Calls Try.prog 22 #[.int .u32 no, .int .u32 fi, .int .i64 m, .slice si n ci] y (UPost y no' fi' K' m' L D (.bool ok))) ∧
      ((ok = true ∧ err = 0 ∧ 0 < L ∧ L ≤ 32 ∧ ∃ K2 m2 : Nat, K' = K2 ∧ m' = m2) ∨ (ok = false ∧ err = 60 ∧ no' = 0 ∧ fi' = 0 ∧ K' = 0 ∧ m' = 0 ∧ L = 0)) := by
  by_cases h : n = 0 ∨ 16 < n ∨ m < 0 ∨ 16 < m
  · refine ⟨0, 0, 0, 0, 0, fun _ _ => 0, 60, false, fun y p _ _ => (s_make_no p no fi m n si ci y h).mono ?_, fun y _ => (r_make_no no fi m n si ci y h).mono ?_, .inr ⟨rfl, rfl, rfl, rfl, rfl, rfl, rfl⟩⟩ <;>
    · rintro e w' ⟨rfl, hb⟩
      exact ⟨none, 0, rfl, OwnS.nil _ _ _ _, hb⟩
  · obtain ⟨m2, rfl⟩ : ∃ m2 : Nat, m = m2 := ⟨m.toNat, by omega⟩
    refine ⟨no, fi, n, m2, n + m2, grD n I, 0, true, fun y p hp hz => (s_make p n m2 no fi I si ci y hp hz hI (by omega) (by omega) (by omega)).mono ?_, fun y hz => (r_make n m2 no fi I si ci y hz hI (by omega) (by omega) (by omega)).mono ?_, .inl ⟨rfl, rfl, by omega, by omega, n, m2, rfl, rfl⟩⟩ <;>
    · rintro e w' ⟨s, cap, rfl, ho, hb⟩
      exact ⟨s, cap, rfl, ho, hb⟩
set_option maxRecDepth 100000 in
/-- the cells of a list of rows of one's own -/
theorem own_it {W : World} {base L cap : Nat} {s : Option Addr} {V : Nat → Nat → Nat} (h : OwnS W base (.slice s L cap) L 2 V) (h0 : 0 < L) :
    ∃ g, s = some ⟨g, 0, none⟩ ∧ g < W.heap.size ∧ ∀ i, i < L → ∃ rg rc, rg < W.heap.size ∧ W.cell? ⟨g, 0 + i, none⟩ = some (.slice (some ⟨rg, 0, none⟩) 2 rc) ∧ BRow W rg 2 (V i) := by
  obtain ⟨A', h1, h2⟩ := h
  rcases h1.2 with ⟨_, h4⟩ | ⟨g, c, cur, hv, hb, hg, q1, q2, q3, q4⟩
  · omega
  · injection hv with hv _ _
    refine ⟨g, hv, (Array.getElem?_eq_some_iff.1 hg).1, fun i hi => ?_⟩
    obtain ⟨rg, k, hu, _, hr, _⟩ := h2 i hi
    refine ⟨rg, k, hr.lt, ?_, hr⟩
    rw [← hu, Nat.zero_add, cell_of_block hg]
    have e : ((List.range L).map A')[i]? = some (A' i) := by simp [hi]
    rw [← q4, List.getElem?_take, if_pos (by omega), Array.getElem?_toList] at e
    exact e
end Go.Proofs.Ytipfoclmdbbjiaa
