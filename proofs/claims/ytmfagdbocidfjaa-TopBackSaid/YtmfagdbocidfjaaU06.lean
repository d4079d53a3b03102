import Derived.Test.YtmfagdbocidfjaaU05
import Derived.Test.YtmfagdbocidfjaaU01
/- A player's inputs: the old ones go. Conditions: what the queue's blocks hold. -/
namespace Go.Proofs.Ytmfagdbocidfjaa
open Go.RowKit
set_option maxRecDepth 100000 in
theorem RingI_drop_any (lo r room first n : Nat) (v : Value) (xs : List Value) (below : Int) (w : World) (h : RingIAt w lo r room first n v xs) (hlo : lo ≤ w.heap.size) (hn : first + n ≤ 100000) (hb2 : below ≤ 1000000) (hv : below ≤ (first : Int) ∨ 0 < n) :
    Calls Try.prog 74 #[.pointer (some ⟨r, 0, none⟩), .int .i64 below] w (RingIPost w lo r room (first + dropK first n below) (n - dropK first n below) v (xs.drop (dropK first n below)) (.tuple #[])) := by
  by_cases hb : below ≤ (first : Int)
  · refine (RingI_drop_no lo r room first n v xs below w h hb).mono ?_
    rintro e w' ⟨rfl, rfl⟩
    have hk : dropK first n below = 0 := by unfold dropK; rw [if_pos hb]
    rw [hk]
    exact ⟨rfl, v, h, Touch.refl w _, fun b hb => .inl hb⟩
  · have h0 : 0 < n := hv.resolve_left hb
    have hk : dropK first n below = min (below - first).toNat n := by unfold dropK; rw [if_neg hb]
    obtain ⟨b, off, cap, rfl⟩ : ∃ b off cap, v = .slice (some ⟨b, off, none⟩) n cap := by
      rcases h.row.2.2 with ⟨_, h0⟩ | ⟨b, off, cap, C, e, _⟩
      · omega
      · exact ⟨b, off, cap, e⟩
    exact RingI_drop lo r room first n b off cap xs below _ w h hlo hn (by omega) hb2 hk
set_option maxRecDepth 100000 in
theorem inRow_drop (l : List Int) (k : Nat) : inRow (l.drop k) = (inRow l).drop k := by unfold inRow; rw [List.map_drop]
/-- the queue, when those below a frame are gone -/
def dropF (s : QuS) (below : Int) : QuS :=
  { s with kf := s.kf + dropK s.kf s.ks.length (min below ((s.uf + s.us.length : Nat) : Int)), ks := s.ks.drop (dropK s.kf s.ks.length (min below ((s.uf + s.us.length : Nat) : Int))),
           uf := s.uf + dropK s.uf s.us.length below, us := s.us.drop (dropK s.uf s.us.length below) }
set_option maxRecDepth 100000 in
set_option maxHeartbeats 2000000 in
theorem qu_drop (lo p kr ur : Nat) (kv uv : Value) (s : QuS) (below : Int) (w : World) (h : QuAt w lo p kr ur kv uv s) (hlo : lo ≤ w.heap.size) (hb : s.kf + s.ks.length ≤ 10000) (hu : s.uf + s.us.length ≤ 10000) (hbl : below ≤ 10000) (hk0 : below ≤ (s.kf : Int) ∨ 0 < s.ks.length) (hu0 : below ≤ (s.uf : Int) ∨ 0 < s.us.length) :
    Calls Try.prog 37 #[.pointer (some ⟨p, 0, none⟩), .int .i64 below] w (QuPost w lo p kr ur kv uv (dropF s below) (.tuple #[])) := by
  have hh := Lib.hid h
  have c1 : w.cell? ⟨p, 1, none⟩ = some (.pointer (some ⟨kr, 0, none⟩)) := (cell_of_block h.blk (i := 1)).trans rfl
  have c3 : w.cell? ⟨p, 3, none⟩ = some (.pointer (some ⟨ur, 0, none⟩)) := (cell_of_block h.blk (i := 3)).trans rfl
  have hnx : Hid (∀ q, Calls Try.prog 71 #[.pointer (some ⟨ur, 0, none⟩)] (w.drewN q) _) := hide (fun q => RingI_next lo ur 256 s.uf s.us.length uv (inRow s.us) (w.drewN q) (h.used.drewN q) (by omega))
  have hdk : Hid (∀ q, Calls Try.prog 74 #[.pointer (some ⟨kr, 0, none⟩), .int .i64 (min below ((s.uf + s.us.length : Nat) : Int))] (w.drewN q) _) := hide (fun q => RingI_drop_any lo kr 256 s.kf s.ks.length kv (inRow s.ks) _ (w.drewN q) (h.known.drewN q) hlo (by omega) (by omega) (by omega))
  have hloh := Lib.hid hlo
  have hbh := Lib.hid hb
  have huh := Lib.hid hu
  have hu0h := Lib.hid hu0
  have hblh := Lib.hid hbl
  have hdef : Hid (dropF s below = { s with kf := s.kf + dropK s.kf s.ks.length (min below ((s.uf + s.us.length : Nat) : Int)), ks := s.ks.drop (dropK s.kf s.ks.length (min below ((s.uf + s.us.length : Nat) : Int))), uf := s.uf + dropK s.uf s.us.length below, us := s.us.drop (dropK s.uf s.us.length below) }) := hide rfl
  generalize dropF s below = s9 at *
  generalize ((s.uf + s.us.length : Nat) : Int) = z at *
  clear h hlo hb hu hbl hk0 hu0
  go_enter Try.func37, Try.ntmps37
  have hHeld : (fun z : World => z.cell? ⟨p, 1, none⟩ = some (.pointer (some ⟨kr, 0, none⟩)) ∧ z.cell? ⟨p, 3, none⟩ = some (.pointer (some ⟨ur, 0, none⟩))) w.drew := ⟨c1, c3⟩
  go_upto_region 0 with (fail)
  refine h_begin 12 (fun z : World => z.cell? ⟨p, 1, none⟩ = some (.pointer (some ⟨kr, 0, none⟩)) ∧ z.cell? ⟨p, 3, none⟩ = some (.pointer (some ⟨ur, 0, none⟩))) rfl (by kernel_rfl) hHeld ?_
  first
    | (refine h_run (i := 0) (v := ?_) hHeld rfl (by kernel_rfl) (by kernel_rfl) (by kernel_rfl) ?_ ?_ ?_
       rotate_left
       · rfl
       · (intro x hSx; (try dsimp only at hSx); go_simp <;> with_reducible rfl)
       simp only [Act.put, List.setIfInBounds_toArray, List.set_cons_zero, List.set_cons_succ])
    | (refine h_skip (i := 0) hHeld rfl (by kernel_rfl) (by kernel_rfl) (by kernel_rfl) ?_ ?_
       · rfl
       simp only [Act.put, List.setIfInBounds_toArray, List.set_cons_zero, List.set_cons_succ])
  first
    | (refine h_run (i := 1) (v := ?_) hHeld rfl (by kernel_rfl) (by kernel_rfl) (by kernel_rfl) ?_ ?_ ?_
       rotate_left
       · rfl
       · (intro x hSx; (try dsimp only at hSx); go_simp <;> with_reducible rfl)
       simp only [Act.put, List.setIfInBounds_toArray, List.set_cons_zero, List.set_cons_succ])
    | (refine h_skip (i := 1) hHeld rfl (by kernel_rfl) (by kernel_rfl) (by kernel_rfl) ?_ ?_
       · rfl
       simp only [Act.put, List.setIfInBounds_toArray, List.set_cons_zero, List.set_cons_succ])
  first
    | (refine h_run (i := 2) (v := ?_) hHeld rfl (by kernel_rfl) (by kernel_rfl) (by kernel_rfl) ?_ ?_ ?_
       rotate_left
       · rfl
       · (intro x hSx; (try dsimp only at hSx); go_simp <;> with_reducible rfl)
       simp only [Act.put, List.setIfInBounds_toArray, List.set_cons_zero, List.set_cons_succ])
    | (refine h_skip (i := 2) hHeld rfl (by kernel_rfl) (by kernel_rfl) (by kernel_rfl) ?_ ?_
       · rfl
       simp only [Act.put, List.setIfInBounds_toArray, List.set_cons_zero, List.set_cons_succ])
  first
    | (refine h_run (i := 3) (v := ?_) hHeld rfl (by kernel_rfl) (by kernel_rfl) (by kernel_rfl) ?_ ?_ ?_
       rotate_left
       · rfl
       · (intro x hSx; (try dsimp only at hSx); go_simp <;> with_reducible rfl)
       simp only [Act.put, List.setIfInBounds_toArray, List.set_cons_zero, List.set_cons_succ])
    | (refine h_skip (i := 3) hHeld rfl (by kernel_rfl) (by kernel_rfl) (by kernel_rfl) ?_ ?_
       · rfl
       simp only [Act.put, List.setIfInBounds_toArray, List.set_cons_zero, List.set_cons_succ])
  first
    | (refine h_run (i := 4) (v := ?_) hHeld rfl (by kernel_rfl) (by kernel_rfl) (by kernel_rfl) ?_ ?_ ?_
       rotate_left
       · rfl
       · (intro x hSx; (try dsimp only at hSx); go_simp <;> with_reducible rfl)
       simp only [Act.put, List.setIfInBounds_toArray, List.set_cons_zero, List.set_cons_succ])
    | (refine h_skip (i := 4) hHeld rfl (by kernel_rfl) (by kernel_rfl) (by kernel_rfl) ?_ ?_
       · rfl
       simp only [Act.put, List.setIfInBounds_toArray, List.set_cons_zero, List.set_cons_succ])
  first
    | (refine h_run (i := 5) (v := ?_) hHeld rfl (by kernel_rfl) (by kernel_rfl) (by kernel_rfl) ?_ ?_ ?_
       rotate_left
       · rfl
       · (intro x hSx; (try dsimp only at hSx); go_simp <;> with_reducible rfl)
       simp only [Act.put, List.setIfInBounds_toArray, List.set_cons_zero, List.set_cons_succ])
    | (refine h_skip (i := 5) hHeld rfl (by kernel_rfl) (by kernel_rfl) (by kernel_rfl) ?_ ?_
       · rfl
       simp only [Act.put, List.setIfInBounds_toArray, List.set_cons_zero, List.set_cons_succ])
  first
    | (refine h_run (i := 6) (v := ?_) hHeld rfl (by kernel_rfl) (by kernel_rfl) (by kernel_rfl) ?_ ?_ ?_
       rotate_left
       · rfl
       · (intro x hSx; (try dsimp only at hSx); go_simp <;> with_reducible rfl)
       simp only [Act.put, List.setIfInBounds_toArray, List.set_cons_zero, List.set_cons_succ])
    | (refine h_skip (i := 6) hHeld rfl (by kernel_rfl) (by kernel_rfl) (by kernel_rfl) ?_ ?_
       · rfl
       simp only [Act.put, List.setIfInBounds_toArray, List.set_cons_zero, List.set_cons_succ])
  first
    | (refine h_run (i := 7) (v := ?_) hHeld rfl (by kernel_rfl) (by kernel_rfl) (by kernel_rfl) ?_ ?_ ?_
       rotate_left
       · rfl
       · (intro x hSx; (try dsimp only at hSx); go_simp <;> with_reducible rfl)
       simp only [Act.put, List.setIfInBounds_toArray, List.set_cons_zero, List.set_cons_succ])
    | (refine h_skip (i := 7) hHeld rfl (by kernel_rfl) (by kernel_rfl) (by kernel_rfl) ?_ ?_
       · rfl
       simp only [Act.put, List.setIfInBounds_toArray, List.set_cons_zero, List.set_cons_succ])
  first
    | (refine h_run (i := 8) (v := ?_) hHeld rfl (by kernel_rfl) (by kernel_rfl) (by kernel_rfl) ?_ ?_ ?_
       rotate_left
       · rfl
       · (intro x hSx; (try dsimp only at hSx); go_simp <;> with_reducible rfl)
       simp only [Act.put, List.setIfInBounds_toArray, List.set_cons_zero, List.set_cons_succ])
    | (refine h_skip (i := 8) hHeld rfl (by kernel_rfl) (by kernel_rfl) (by kernel_rfl) ?_ ?_
       · rfl
       simp only [Act.put, List.setIfInBounds_toArray, List.set_cons_zero, List.set_cons_succ])
  refine h_call (i := 9) (fun z : World => z.cell? ⟨p, 1, none⟩ = some (.pointer (some ⟨kr, 0, none⟩)) ∧ z.cell? ⟨p, 3, none⟩ = some (.pointer (some ⟨ur, 0, none⟩))) (fun _ h => h) (hnx.out 1) rfl (by kernel_rfl) rfl ?_ ?_
  · go_simp <;> with_reducible rfl
  rintro _ w2 ⟨rfl, q2, hw2⟩
  have hw3 : w2 = w.drewN (1 + q2) := hw2.trans (World.drewN_drewN _ _ _)
  subst hw3
  clear hw2
  have hHeld : (fun z : World => z.cell? ⟨p, 1, none⟩ = some (.pointer (some ⟨kr, 0, none⟩)) ∧ z.cell? ⟨p, 3, none⟩ = some (.pointer (some ⟨ur, 0, none⟩))) (w.drewN (1 + q2)) := ⟨c1, c3⟩
  refine ⟨_, rfl, hHeld, ?_⟩
  simp only [Act.put, List.setIfInBounds_toArray, List.set_cons_zero, List.set_cons_succ]
  first
    | (refine h_run (i := 10) (v := ?_) hHeld rfl (by kernel_rfl) (by kernel_rfl) (by kernel_rfl) ?_ ?_ ?_
       rotate_left
       · rfl
       · (intro x hSx; (try dsimp only at hSx); go_simp <;> with_reducible rfl)
       simp only [Act.put, List.setIfInBounds_toArray, List.set_cons_zero, List.set_cons_succ])
    | (refine h_skip (i := 10) hHeld rfl (by kernel_rfl) (by kernel_rfl) (by kernel_rfl) ?_ ?_
       · rfl
       simp only [Act.put, List.setIfInBounds_toArray, List.set_cons_zero, List.set_cons_succ])
  have hmin : (if z < below then z else below) = min below z := by omega
  trace_state
  rw [hmin]
  refine h_call (i := 11) (fun z : World => z.cell? ⟨p, 1, none⟩ = some (.pointer (some ⟨kr, 0, none⟩)) ∧ z.cell? ⟨p, 3, none⟩ = some (.pointer (some ⟨ur, 0, none⟩))) (fun _ h => h) (hdk.out (1 + q2)) rfl (by kernel_rfl) rfl ?_ ?_
  · go_simp <;> with_reducible rfl
  rintro _ w3 ⟨rfl, kv1, hR, hT, hf⟩
  have hq := hh.out.drewN (1 + q2)
  have hk := hq.knownTurn hT (ks := s.ks.drop (dropK s.kf s.ks.length (min below z))) (by rw [inRow_drop]; exact hR) (by simp) hf
  have hTw : Hid (Touch w w3 (quFoot p kr ur kv uv)) := hide (((Touch.refl w _).drewN (1 + q2)).trans (hT.mono (fun b _ hb => .inl (hb.elim (fun e => .inr (.inl e)) (fun e => .inr (.inr (.inr (.inl e))))))))
  have hfh : Hid (∀ b, kv1.ownBlock = some b → kv.ownBlock = some b ∨ w.heap.size ≤ b) := hide hf
  have hkh := Lib.hid hk
  have hl3 : Hid (lo ≤ w3.heap.size) := hide (Nat.le_trans hloh.out hTw.out.size)
  have hHeld : (fun z : World => z.cell? ⟨p, 1, none⟩ = some (.pointer (some ⟨kr, 0, none⟩)) ∧ z.cell? ⟨p, 3, none⟩ = some (.pointer (some ⟨ur, 0, none⟩))) w3 := ⟨(cell_of_block hk.blk (i := 1)).trans rfl, (cell_of_block hk.blk (i := 3)).trans rfl⟩
  refine ⟨_, rfl, hHeld, h_done (by kernel_rfl) ?_⟩
  simp only [Act.put, List.setIfInBounds_toArray, List.set_cons_zero, List.set_cons_succ]
  have c3 : w3.cell? ⟨p, 3, none⟩ = some (.pointer (some ⟨ur, 0, none⟩)) := hHeld.2
  have hdu := Lib.hid (RingI_drop_any lo ur 256 s.uf s.us.length uv (inRow s.us) below w3 hkh.out.used hl3.out (by have := huh.out; omega) (by have := hblh.out; omega) hu0h.out)
  clear hHeld hR hT hf hk hq hh hnx hdk c1
  go_wp2_with fail
  refine hdu.out.mono ?_
  rintro _ w4 ⟨rfl, uv1, hR, hT, hf⟩
  have hu := hkh.out.usedTurn hT (us := s.us.drop (dropK s.uf s.us.length below)) (by rw [inRow_drop]; exact hR) (by simp) hf
  have hend : Hid (QuPost w lo p kr ur kv uv s9 (.tuple #[]) (.returned (.tuple #[])) w4) := hide ⟨rfl, kv1, uv1, by rw [hdef.out]; exact hu, hTw.out.trans (hT.mono (fun b _ hb => .inl (hb.elim (fun e => .inr (.inr (.inl e))) (fun e => .inr (.inr (.inr (.inr e))))))), hfh.out, fun b hb => (hf b hb).imp id (fun e => Nat.le_trans hTw.out.size e)⟩
  clear hR hT hf hu
  go_wp2_with fail
  go_end0
  exact hend.out
end Go.Proofs.Ytmfagdbocidfjaa

/- The contracts of package word: what each function computes, in plain integers. Conditions: the arguments are numbers of their kinds. -/
namespace Go.Proofs.Ytmfagdbocidfjaa
open Go.RowKit

/-- held at the limits of 64 bits -/
def satZ (n : Int) : Int := if 9223372036854775807 < n then 9223372036854775807 else if n < -9223372036854775808 then -9223372036854775808 else n
set_option maxRecDepth 100000 in
theorem satZ_bd (n : Int) : -9223372036854775808 ≤ satZ n ∧ satZ n ≤ 9223372036854775807 := by unfold satZ; split <;> (try split) <;> omega
set_option maxRecDepth 100000 in
theorem satZ_in (n : Int) (h1 : -9223372036854775808 ≤ n) (h2 : n ≤ 9223372036854775807) : satZ n = n := by unfold satZ; rw [if_neg (by omega), if_neg (by omega)]
set_option maxRecDepth 100000 in
theorem satZ_hi (n : Int) (h : 9223372036854775807 ≤ n) : satZ n = 9223372036854775807 := by unfold satZ; split <;> (try split) <;> omega
set_option maxRecDepth 100000 in
theorem satZ_lo (n : Int) (h : n ≤ -9223372036854775808) : satZ n = -9223372036854775808 := by unfold satZ; split <;> (try split) <;> omega
def I64 (a : Int) : Prop := -9223372036854775808 ≤ a ∧ a ≤ 9223372036854775807
attribute [local irreducible] satZ

set_option maxRecDepth 100000 in
set_option maxHeartbeats 400000 in
theorem w_add (a b : Int) (w : World) (ha : I64 a) (hb : I64 b) :
    Calls Try.prog 78 #[.int .i64 a, .int .i64 b] w fun e w' => e = .returned (.int .i64 (satZ (a + b))) ∧ w = w' := by
  obtain ⟨a1, a2⟩ := ha
  obtain ⟨b1, b2⟩ := hb
  go_enter Try.func78, Try.ntmps78
  go_wp2_with fail
  all_goals
    go_ret
    exact ⟨ret_int (by first | rw [satZ_in _ (by omega) (by omega)] | rw [satZ_hi _ (by omega)] | rw [satZ_lo _ (by omega)]), rfl⟩

set_option maxRecDepth 100000 in
set_option maxHeartbeats 400000 in
theorem w_sub (a b : Int) (w : World) (ha : I64 a) (hb : I64 b) :
    Calls Try.prog 79 #[.int .i64 a, .int .i64 b] w fun e w' => e = .returned (.int .i64 (satZ (a - b))) ∧ w = w' := by
  obtain ⟨a1, a2⟩ := ha
  obtain ⟨b1, b2⟩ := hb
  go_enter Try.func79, Try.ntmps79
  go_wp2_with fail
  all_goals
    go_ret
    exact ⟨ret_int (by first | rw [satZ_in _ (by omega) (by omega)] | rw [satZ_hi _ (by omega)] | rw [satZ_lo _ (by omega)]), rfl⟩

/-! ### quotients rounded down -/
/-- the quotient rounded down, held; 0 by 0 -/
def floorZ (a b : Int) : Int := if b = 0 then 0 else satZ (a.fdiv b)
/-- what it leaves; 0 by 0 -/
def restZ (a b : Int) : Int := if b = 0 then 0 else a.fmod b
set_option maxRecDepth 100000 in
theorem fdiv_of (a b : Int) (b0 : b ≠ 0) : a.fdiv b = a.tdiv b - (if a.tmod b ≠ 0 ∧ ¬ (a < 0 ↔ b < 0) then 1 else 0) := by
  rw [Int.fdiv_eq_tdiv]
  by_cases h : a.tmod b = 0
  · rw [if_pos (Int.dvd_of_tmod_eq_zero h), if_neg (by simp [h])]
  · rw [if_neg (fun e => h (Int.tmod_eq_zero_of_dvd e))]
    by_cases ha : 0 ≤ a <;> by_cases hb : 0 ≤ b
    · rw [if_pos ha, if_pos hb, if_neg (by omega)]
    · rw [if_pos ha, if_neg hb, if_pos (by omega)]
    · rw [if_neg ha, if_pos hb, if_pos (by omega), Int.sign_eq_one_of_pos (by omega)]
    · rw [if_neg ha, if_neg hb, if_neg (by omega), Int.sign_eq_neg_one_of_neg (by omega)]; omega
set_option maxRecDepth 100000 in
theorem tmod_sign (a b : Int) (h : a.tmod b ≠ 0) : a.tmod b < 0 ↔ a < 0 := by
  rcases Int.lt_or_le a 0 with ha | ha
  · have := Int.tmod_nonneg (a := -a) b (by omega)
    rw [Int.neg_tmod] at this
    omega
  · have := Int.tmod_nonneg (a := a) b ha
    omega
set_option maxRecDepth 100000 in
theorem tmod_abs (a b : Int) (b0 : b ≠ 0) : (a.tmod b).natAbs < b.natAbs := by
  rw [Int.natAbs_tmod]; exact Nat.mod_lt _ (by omega)
set_option maxRecDepth 100000 in
theorem fmod_of (a b : Int) (_b0 : b ≠ 0) : a.fmod b = a.tmod b + (if a.tmod b ≠ 0 ∧ ¬ (a.tmod b < 0 ↔ b < 0) then b else 0) := by
  rw [Int.fmod_eq_tmod]
  by_cases h : a.tmod b = 0
  · rw [if_pos (Int.dvd_of_tmod_eq_zero h), if_neg (by simp [h])]
  · have hs := tmod_sign a b h
    rw [if_neg (fun e => h (Int.tmod_eq_zero_of_dvd e))]
    by_cases ha : 0 ≤ a <;> by_cases hb : 0 ≤ b
    · rw [if_pos ha, if_pos hb, if_neg (by omega)]
    · rw [if_pos ha, if_neg hb, if_pos (by omega)]
    · rw [if_neg ha, if_pos hb, if_pos (by omega)]; omega
    · rw [if_neg ha, if_neg hb, if_neg (by omega)]; omega
set_option maxRecDepth 100000 in
theorem tdiv_bd (a b : Int) (ha : I64 a) (b0 : b ≠ 0) (bm : b ≠ -1) : I64 (a.tdiv b) ∧ (a.tmod b ≠ 0 → -4611686018427387904 ≤ a.tdiv b ∧ a.tdiv b ≤ 4611686018427387904) := by
  obtain ⟨a1, a2⟩ := ha
  by_cases b1 : b = 1
  · subst b1
    rw [Int.tdiv_one]
    exact ⟨⟨a1, a2⟩, fun h => absurd (by simp) h⟩
  · have h1 : (a.tdiv b).natAbs ≤ a.natAbs / 2 := by
      rw [Int.natAbs_tdiv]
      show a.natAbs / b.natAbs ≤ a.natAbs / 2
      exact Nat.div_le_div_left (by omega) (by decide)
    exact ⟨⟨by omega, by omega⟩, fun _ => ⟨by omega, by omega⟩⟩
set_option maxRecDepth 100000 in
theorem floor_same (a b : Int) (ha : I64 a) (b0 : b ≠ 0) (bm : b ≠ -1) (h : ¬ (a.tmod b ≠ 0 ∧ ¬ (a < 0 ↔ b < 0))) : wrap64 (a.tdiv b) = floorZ a b := by
  obtain ⟨⟨h1, h2⟩, _⟩ := tdiv_bd a b ha b0 bm
  unfold floorZ
  rw [if_neg b0, fdiv_of a b b0, if_neg h, Int.sub_zero, satZ_in _ h1 h2, IntWalk.wrap64_in _ ⟨by omega, by omega⟩]
set_option maxRecDepth 100000 in
theorem floor_less (a b : Int) (ha : I64 a) (b0 : b ≠ 0) (bm : b ≠ -1) (h : a.tmod b ≠ 0 ∧ ¬ (a < 0 ↔ b < 0)) : wrap64 (wrap64 (a.tdiv b) - 1) = floorZ a b := by
  obtain ⟨⟨h1, h2⟩, h3⟩ := tdiv_bd a b ha b0 bm
  obtain ⟨h4, h5⟩ := h3 h.1
  unfold floorZ
  rw [if_neg b0, fdiv_of a b b0, if_pos h, satZ_in _ (by omega) (by omega), IntWalk.wrap64_in (a.tdiv b) ⟨by omega, by omega⟩, IntWalk.wrap64_in _ ⟨by omega, by omega⟩]
set_option maxRecDepth 100000 in
theorem floor_m1 (a : Int) : satZ (-a) = floorZ a (-1) := by
  unfold floorZ
  rw [if_neg (by decide), fdiv_of a (-1) (by decide)]
  simp
set_option maxRecDepth 100000 in
theorem floor_0 (a : Int) : 0 = floorZ a 0 := rfl
set_option maxRecDepth 100000 in
theorem rest_0 (a : Int) : 0 = restZ a 0 := rfl
set_option maxRecDepth 100000 in
theorem rest_m1 (a : Int) : 0 = restZ a (-1) := by
  unfold restZ
  rw [if_neg (by decide), fmod_of a (-1) (by decide)]
  simp
set_option maxRecDepth 100000 in
theorem rest_same (a b : Int) (b0 : b ≠ 0) (h : ¬ (a.tmod b ≠ 0 ∧ ¬ (a.tmod b < 0 ↔ b < 0))) : a.tmod b = restZ a b := by
  unfold restZ; rw [if_neg b0, fmod_of a b b0, if_neg h, Int.add_zero]
set_option maxRecDepth 100000 in
theorem rest_more (a b : Int) (b0 : b ≠ 0) (hb : I64 b) (h : a.tmod b ≠ 0 ∧ ¬ (a.tmod b < 0 ↔ b < 0)) : wrap64 (a.tmod b + b) = restZ a b := by
  obtain ⟨b1, b2⟩ := hb
  have h1 := tmod_abs a b b0
  unfold restZ; rw [if_neg b0, fmod_of a b b0, if_pos h, IntWalk.wrap64_in _ ⟨by omega, by omega⟩]
set_option maxRecDepth 100000 in
theorem two_signs {x y z : Int} (h : (x != 0) = true ∧ (!decide (y < 0) == decide (z < 0)) = true) : x ≠ 0 ∧ ¬ (y < 0 ↔ z < 0) := by
  obtain ⟨h1, h2⟩ := h
  refine ⟨by simpa using h1, fun e => ?_⟩
  by_cases hy : y < 0 <;> by_cases hz : z < 0 <;> simp [hy, hz] at h2 <;> omega
set_option maxRecDepth 100000 in
theorem one_sign {x y z : Int} (h : (x != 0) = false ∨ (!decide (y < 0) == decide (z < 0)) = false) : ¬ (x ≠ 0 ∧ ¬ (y < 0 ↔ z < 0)) := by
  rintro ⟨h1, h2⟩
  rcases h with h | h
  · exact h1 (by simpa using h)
  · by_cases hy : y < 0 <;> by_cases hz : z < 0 <;> simp [hy, hz] at h <;> omega
attribute [local irreducible] floorZ restZ

/-! ### going round -/
/-- how far a is behind b, going round 32 bits -/
def behindZ (a b : Int) : Int := if (a - b) % 4294967296 < 2147483648 then (a - b) % 4294967296 else (a - b) % 4294967296 - 4294967296
set_option maxRecDepth 100000 in
theorem behindZ_bd (a b : Int) : -2147483648 ≤ behindZ a b ∧ behindZ a b < 2147483648 := by unfold behindZ; split <;> omega
set_option maxRecDepth 100000 in
theorem behind_wrap (a b : Int) : wrap64 (wrap32 ((a - b) % 4294967296)) = behindZ a b := by
  have h : wrap32 ((a - b) % 4294967296) = behindZ a b := by
    unfold wrap32 behindZ
    split <;> omega
  have := behindZ_bd a b
  rw [h, IntWalk.wrap64_in _ ⟨by omega, by omega⟩]
set_option maxRecDepth 100000 in
set_option maxHeartbeats 400000 in
theorem w_behind (a b : Int) (w : World) :
    Calls Try.prog 87 #[.int .u32 a, .int .u32 b] w fun e w' => e = .returned (.int .i64 (behindZ a b)) ∧ w = w' := by
  go_enter Try.func87, Try.ntmps87
  go_wp2_with fail
  go_ret
  exact ⟨ret_int (behind_wrap a b), rfl⟩
attribute [local irreducible] behindZ
end Go.Proofs.Ytmfagdbocidfjaa

/- Clamp, Abs, Abs64, Sum of package word. Conditions: the arguments are numbers of their kinds. -/
namespace Go.Proofs.Ytmfagdbocidfjaa
open Go.RowKit
/-- held within two others -/
def clampZ (n lo hi : Int) : Int := max lo (min n (max lo hi))
set_option maxRecDepth 100000 in
theorem clampZ_bd (n lo hi : Int) (h : lo ≤ hi) : lo ≤ clampZ n lo hi ∧ clampZ n lo hi ≤ hi := by unfold clampZ; omega
set_option maxRecDepth 100000 in
set_option maxHeartbeats 400000 in
theorem w_clamp (n lo hi : Int) (w : World) :
    Calls Try.prog 77 #[.int .i64 n, .int .i64 lo, .int .i64 hi] w fun e w' => e = .returned (.int .i64 (clampZ n lo hi)) ∧ w = w' := by
  go_enter Try.func77, Try.ntmps77
  go_wp2_with fail
  all_goals
    go_ret
    exact ⟨ret_int (by unfold clampZ; omega), rfl⟩
attribute [local irreducible] satZ
set_option maxRecDepth 100000 in
set_option maxHeartbeats 400000 in
theorem w_abs (n : Int) (w : World) (hn : I64 n) :
    Calls Try.prog 114 #[.int .i64 n] w fun e w' => e = .returned (.int .i64 (satZ n.natAbs)) ∧ w = w' := by
  obtain ⟨n1, n2⟩ := hn
  by_cases hl : n = -9223372036854775808
  · subst hl
    go_enter Try.func114, Try.ntmps114
    go_wp2_with fail
    go_ret
    exact ⟨ret_int (satZ_hi _ (by omega)).symm, rfl⟩
  · have e0 : (n == -9223372036854775808) = false := by simp; exact hl
    by_cases hneg : n < 0
    · have hx := hide (satZ_in n.natAbs (by omega) (by omega))
      go_enter Try.func114, Try.ntmps114
      go_wp2_with fail
      all_goals
        go_ret
        exact ⟨ret_int (by rw [hx.out]; omega), rfl⟩
    · have hx := hide (satZ_in n.natAbs (by omega) (by omega))
      go_enter Try.func114, Try.ntmps114
      go_wp2_with fail
      all_goals
        go_ret
        exact ⟨ret_int (by rw [hx.out]; omega), rfl⟩
set_option maxRecDepth 100000 in
set_option maxHeartbeats 400000 in
theorem w_abs64 (n : Int) (w : World) (hn : I64 n) :
    Calls Try.prog 113 #[.int .i64 n] w fun e w' => e = .returned (.int .u64 n.natAbs) ∧ w = w' := by
  obtain ⟨n1, n2⟩ := hn
  by_cases hneg : n < 0
  · go_enter Try.func113, Try.ntmps113
    go_wp2_with fail
    go_ret
    exact ⟨ret_int (by rw [IntKind.wrap_u64, IntKind.wrap_u64]; omega), rfl⟩
  · go_enter Try.func113, Try.ntmps113
    go_wp2_with fail
    go_ret
    exact ⟨ret_int (by omega), rfl⟩
/-- the sum of many, held each time -/
def sumZ (l : List Int) : Int := l.foldl (fun n x => satZ (n + x)) 0
set_option maxRecDepth 100000 in
theorem sumZ_take (l : List Int) (k : Nat) (x : Int) (h : l[k]? = some x) : sumZ (l.take (k + 1)) = satZ (sumZ (l.take k) + x) := by
  rw [List.take_add_one, h]; simp [sumZ]
set_option maxRecDepth 100000 in
theorem sumZ_bd (l : List Int) (k : Nat) : I64 (sumZ (l.take k)) := by
  induction k with
  | zero => exact ⟨by simp [sumZ], by simp [sumZ]⟩
  | succ k ih =>
    rcases hx : l[k]? with _ | x
    · rw [List.take_add_one, hx]; simpa using ih
    · rw [sumZ_take l k x hx]; exact satZ_bd _
set_option maxRecDepth 100000 in
theorem sumZ_nil : sumZ [] = 0 := rfl
attribute [local irreducible] sumZ
end Go.Proofs.Ytmfagdbocidfjaa
