/- How likely enough shards come: the plain rows, and the contracts of package redund's Odds and of the document's answer. Conditions: none. -/
import Derived.Test.YtpeloeiiaikadaaRedund3
import Derived.Test.YtpeloeiiaikadaaRowF
import Derived.StillTailTactics
namespace Go.Proofs.Ytpeloeiiaikadaa
open Go.RowKit
def odF (L : Int) : Nat → Nat → Int
  | 0, i => if i = 0 then 65536 else 0
  | n + 1, i => odF L n i * L / 65536 + (if i = 0 then 0 else odF L n (i - 1) * (65536 - L) / 65536)
def sumF (f : Nat → Int) : Nat → Int
  | 0 => 0
  | k + 1 => sumF f k + f k
theorem od_out (L : Int) (n : Nat) : ∀ i, n < i → odF L n i = 0 := by
  induction n with
  | zero => intro i hi; unfold odF; rw [if_neg (by omega)]
  | succ n ih =>
    intro i hi
    unfold odF
    rw [ih i (by omega), if_neg (by omega), ih (i - 1) (by omega)]
    simp
theorem od_two (a L : Int) : a * L / 65536 + a * (65536 - L) / 65536 ≤ a := by
  rw [Int.mul_sub]; generalize a * L = x; omega
theorem od_nn (L : Int) (h0 : 0 ≤ L) (h1 : L ≤ 65536) (n : Nat) : ∀ i, 0 ≤ odF L n i := by
  induction n with
  | zero => intro i; unfold odF; split <;> omega
  | succ n ih =>
    intro i
    unfold odF
    have a := Int.ediv_nonneg (Int.mul_nonneg (ih i) h0) (show (0 : Int) ≤ 65536 by omega)
    have b := Int.ediv_nonneg (Int.mul_nonneg (ih (i - 1)) (show 0 ≤ 65536 - L by omega)) (show (0 : Int) ≤ 65536 by omega)
    split <;> omega
theorem od_sum1 (L : Int) (n k : Nat) : sumF (odF L (n + 1)) (k + 1) + odF L n k * (65536 - L) / 65536 ≤ sumF (odF L n) (k + 1) := by
  induction k with
  | zero =>
    have := od_two (odF L n 0) L
    simp only [sumF]
    rw [show odF L (n + 1) 0 = odF L n 0 * L / 65536 + 0 from by rw [odF]; simp]
    omega
  | succ k ih =>
    have := od_two (odF L n (k + 1)) L
    have e : odF L (n + 1) (k + 1) = odF L n (k + 1) * L / 65536 + odF L n k * (65536 - L) / 65536 := by rw [odF]; simp
    simp only [sumF] at ih ⊢
    rw [e]
    omega
theorem od_sum (L : Int) (h0 : 0 ≤ L) (h1 : L ≤ 65536) (n : Nat) : ∀ k, 0 ≤ sumF (odF L n) k ∧ sumF (odF L n) k ≤ 65536 := by
  have nn : ∀ n k, 0 ≤ sumF (odF L n) k := by
    intro n k
    induction k with
    | zero => exact Int.le_refl 0
    | succ k ih => have := od_nn L h0 h1 n k; simp only [sumF]; omega
  have up : ∀ k, sumF (odF L n) k ≤ 65536 := by
    induction n with
    | zero =>
      intro k
      have : ∀ k, sumF (odF L 0) (k + 1) = 65536 := by
        intro k
        induction k with
        | zero => rfl
        | succ k ih => rw [sumF, ih]; unfold odF; rw [if_neg (by omega)]; rfl
      cases k with
      | zero => simp [sumF]
      | succ k => rw [this]; omega
    | succ n ih =>
      intro k
      cases k with
      | zero => simp [sumF]
      | succ k =>
        have h := od_sum1 L n k
        have hq := ih (k + 1)
        have hb := Int.ediv_nonneg (Int.mul_nonneg (od_nn L h0 h1 n k) (show 0 ≤ 65536 - L by omega)) (show (0 : Int) ≤ 65536 by omega)
        omega
  exact fun k => ⟨nn n k, up k⟩
theorem od_bd (L : Int) (h0 : 0 ≤ L) (h1 : L ≤ 65536) (n i : Nat) : 0 ≤ odF L n i ∧ odF L n i ≤ 65536 := by
  have a := od_sum L h0 h1 n i
  have b := (od_sum L h0 h1 n (i + 1)).2
  have c := od_nn L h0 h1 n i
  simp only [sumF] at b
  omega
/-- only from a place on -/
def fromF (need : Int) (f : Nat → Int) (i : Nat) : Int := if need ≤ (i : Int) then f i else 0
theorem from_bd (need : Int) (f : Nat → Int) (hf : ∀ i, 0 ≤ f i) (k : Nat) : 0 ≤ sumF (fromF need f) k ∧ sumF (fromF need f) k ≤ sumF f k := by
  induction k with
  | zero => exact ⟨Int.le_refl 0, Int.le_refl 0⟩
  | succ k ih => have := hf k; simp only [sumF, fromF]; split <;> omega
theorem from_less (need : Int) (f : Nat → Int) (hf : ∀ i, 0 ≤ f i) (k : Nat) : sumF (fromF (need + 1) f) k ≤ sumF (fromF need f) k := by
  induction k with
  | zero => exact Int.le_refl 0
  | succ k ih =>
    have := hf k
    simp only [sumF, fromF]
    split <;> split <;> omega
theorem from_more (need : Int) (f : Nat → Int) (n : Nat) (hf : ∀ i, n < i → f i = 0) (k : Nat) : sumF (fromF need f) (n + 1 + k) = sumF (fromF need f) (n + 1) := by
  induction k with
  | zero => rfl
  | succ k ih =>
    rw [← Nat.add_assoc, sumF, ih, fromF, hf _ (by omega)]
    split <;> omega
def odZ (shards need loss : Int) : Int :=
  if shards < 0 ∨ 32 < shards ∨ shards < need then 0 else sumF (fromF need (odF (clampZ loss 0 65536) shards.toNat)) (shards.toNat + 2)
theorem odZ_bd (shards need loss : Int) : 0 ≤ odZ shards need loss ∧ odZ shards need loss ≤ 65536 := by
  have hl := clampZ_bd loss 0 65536 (by omega)
  unfold odZ
  split
  · omega
  · have a := from_bd need _ (od_nn _ hl.1 hl.2 shards.toNat) (shards.toNat + 2)
    have b := od_sum _ hl.1 hl.2 shards.toNat (shards.toNat + 2)
    omega
theorem odZ_less (shards need loss : Int) : odZ shards (need + 1) loss ≤ odZ shards need loss := by
  have hl := clampZ_bd loss 0 65536 (by omega)
  have h0 := (odZ_bd shards need loss).1
  by_cases h : shards < 0 ∨ 32 < shards ∨ shards < need + 1
  · rw [show odZ shards (need + 1) loss = 0 from by unfold odZ; rw [if_pos h]]; exact h0
  · unfold odZ
    rw [if_neg h, if_neg (by omega)]
    exact from_less need _ (od_nn _ hl.1 hl.2 shards.toNat) _
/-- the next row, behind i places are reckoned -/
def nxF (L : Int) (m i j : Nat) : Int := if j < i then odF L (m + 1) j else if j = i then (if i = 0 then 0 else odF L m (i - 1) * (65536 - L) / 65536) else 0
theorem nx_zero (L : Int) (m j : Nat) : nxF L m 0 j = 0 := by unfold nxF; split <;> (try split) <;> simp_all
theorem nx_at (L : Int) (m i : Nat) : nxF L m i i + odF L m i * L / 65536 = odF L (m + 1) i := by
  unfold nxF; rw [if_neg (by omega), if_pos rfl, odF]; omega
theorem nx_above (L : Int) (m i : Nat) : nxF L m i (i + 1) = 0 := by unfold nxF; rw [if_neg (by omega), if_neg (by omega)]
theorem nx_step (L : Int) (m i j : Nat) : (if j = i + 1 then 0 + odF L m i * (65536 - L) / 65536 else if j = i then odF L (m + 1) i else nxF L m i j) = nxF L m (i + 1) j := by
  unfold nxF
  by_cases e : j = i + 1
  · subst e
    rw [if_pos rfl, if_neg (by omega), if_pos rfl, if_neg (by omega)]
    rw [Nat.add_sub_cancel]; omega
  · rw [if_neg e]
    by_cases e2 : j = i
    · subst e2; rw [if_pos rfl, if_pos (by omega)]
    · rw [if_neg e2]
      by_cases e3 : j < i
      · rw [if_pos e3, if_pos (by omega)]
      · rw [if_neg e3, if_neg e2, if_neg (by omega), if_neg e]
theorem nx_end (L : Int) (m N j : Nat) (hm : m < N) (hj : j < N + 1) : nxF L m N j = odF L (m + 1) j := by
  unfold nxF
  by_cases e : j < N
  · rw [if_pos e]
  · obtain rfl : j = N := by omega
    rw [if_neg e, if_pos rfl]
    conv => rhs; unfold odF
    rw [od_out L m j hm]
    simp
theorem prod_in (p L : Int) (p0 : 0 ≤ p) (p1 : p ≤ 65536) (l0 : 0 ≤ L) (l1 : L ≤ 65536) : 0 ≤ p * L ∧ p * L ≤ 4294967296 := by
  refine ⟨Int.mul_nonneg p0 l0, ?_⟩
  have := Int.mul_le_mul p1 l1 l0 (show (0 : Int) ≤ 65536 by omega)
  omega
theorem infoI : (Try.prog.info? 3).map (fun i => (i.zero, i.size, i.bytes)) = some (some (.int .i64 0), 1, 8) := by kernel_rfl
attribute [local irreducible] odF sumF fromF clampZ nxF
set_option maxHeartbeats 1000000 in
theorem s_odds_no (a b c : Int) (w : World) (h : a < 0 ∨ 32 < a ∨ a < b) :
    Calls Try.prog 13 #[.int .i64 a, .int .i64 b, .int .i64 c] w fun e w' => e = .returned (.int .i64 0) ∧ w = w' := by
  by_cases h0 : a < 0
  · have d : decide (a < 0) = true := decide_eq_true h0
    go_enter Try.func13, Try.ntmps13
    go_wp2_with fail
    go_ret
    exact ⟨rfl, rfl⟩
  have d0 : decide (a < 0) = false := decide_eq_false h0
  by_cases h1 : 32 < a
  · have d : decide (32 < a) = true := decide_eq_true h1
    go_enter Try.func13, Try.ntmps13
    go_wp2_with fail
    go_ret
    exact ⟨rfl, rfl⟩
  have d1 : decide (32 < a) = false := decide_eq_false h1
  have d2 : decide (a < b) = true := decide_eq_true (by omega)
  go_enter Try.func13, Try.ntmps13
  go_wp2_with fail
  go_ret
  exact ⟨rfl, rfl⟩
set_option maxHeartbeats 1000000 in
theorem r_odds_no (a b c : Int) (w : World) (h : a < 0 ∨ 32 < a ∨ a < b) :
    Calls Try.prog 14 #[.int .i64 a, .int .i64 b, .int .i64 c] w fun e w' => e = .returned (.int .i64 0) ∧ w = w' := by
  by_cases h0 : a < 0
  · have d : decide (a < 0) = true := decide_eq_true h0
    go_enter Try.func14, Try.ntmps14
    go_wp2_with fail
    go_ret
    exact ⟨rfl, rfl⟩
  have d0 : decide (a < 0) = false := decide_eq_false h0
  by_cases h1 : 32 < a
  · have d : decide (32 < a) = true := decide_eq_true h1
    go_enter Try.func14, Try.ntmps14
    go_wp2_with fail
    go_ret
    exact ⟨rfl, rfl⟩
  have d1 : decide (32 < a) = false := decide_eq_false h1
  have d2 : decide (a < b) = true := decide_eq_true (by omega)
  go_enter Try.func14, Try.ntmps14
  go_wp2_with fail
  go_ret
  exact ⟨rfl, rfl⟩
theorem row_one (w : World) (g n : Nat) (T : TypeId) (L : Int) (h : FRow w g T .i64 n (fun _ => 0)) : FRow (w.setCell ⟨g, 0, none⟩ (.int .i64 65536)) g T .i64 n (odF L 0) :=
  (h.set 0 65536).congr fun j _ => by unfold odF; rfl
set_option maxRecDepth 100000 in
set_option maxHeartbeats 2000000 in
theorem s_odds_yes (sh : Nat) (b c : Int) (w : World) (h : sh ≤ 32) (hb : b ≤ (sh : Int)) :
    Calls Try.prog 13 #[.int .i64 (sh : Int), .int .i64 b, .int .i64 c] w (ValPost w (.int .i64 (sumF (fromF b (odF (clampZ c 0 65536) sh)) (sh + 2)))) := by
  have hl := clampZ_bd c 0 65536 (by omega)
  have cl := Lib.hid (fun W => w_clamp c 0 65536 W)
  generalize clampZ c 0 65536 = L at *
  obtain ⟨l0, l1⟩ := hl
  have hmk : ∀ x : World, (Instr.makeSlice 43 (.int .i64 ((sh : Int) + 2)) (.int .i64 ((sh : Int) + 2))).run Try.prog x = .ok (.slice (some ⟨x.heap.size, 0, none⟩) (sh + 2) (sh + 2)) (x.alloc (.cells (madeCells #[.int .i64 0] (sh + 2)) 3)) := by
    intro x
    have := make_row (P := Try.prog) Try.underlying43 infoI (sh + 2) (by omega) (by decide) x
    simpa using this
  have hfr := fun x : World => frow_made x 3 .i64 (sh + 2)
  have hfrh := Lib.hid hfr
  clear hfr
  have d2 : decide ((sh : Int) < b) = false := decide_eq_false (by omega)
  go_enter Try.func13, Try.ntmps13
  go_wp2_with fail
  refine (cl.out _).mono ?_
  rintro e w' ⟨rfl, rfl⟩
  clear cl
  go_upto_region 5 with (fail)
  have r0 := hfrh.out w
  have hB : Below w.heap.size w (w.alloc (.cells (madeCells #[.int .i64 0] (sh + 2)) 3)) := (Below.refl _ _).alloc (Nat.le_refl _) _
  generalize World.alloc w _ = V at *
  have c0 := r0.cell 0 (by omega)
  have f0 := r0.fr 0
  have r0h := Lib.hid r0
  have hBh := Lib.hid hB
  clear r0 hB
  go_upto_region 6 with (fail)
  have r1 := row_one V w.heap.size (sh + 2) 3 L r0h.out
  have hB1 : Below w.heap.size w (V.setCell ⟨w.heap.size, 0, none⟩ (.int .i64 65536)) := hBh.out.setCell (p := ⟨w.heap.size, 0, none⟩) (Nat.le_refl _) _
  generalize World.setCell V _ _ = V1 at *
  have r1h := Lib.hid r1
  have hB1h := Lib.hid hB1
  clear r1 hB1 r0h hBh c0 f0
  go_wp2_with fail
  go_loopw [7, 33] (fun row mi wr => ∃ (m g : Nat), m ≤ sh ∧ mi = .int .i64 m ∧ row = .slice (some ⟨g, 0, none⟩) (sh + 2) (sh + 2) ∧ w.heap.size ≤ g ∧ FRow wr g 3 .i64 (sh + 2) (odF L m) ∧ Below w.heap.size w wr) (fun _ mi _ => sh - (intOf mi).toNat)
  case atStart => exact ⟨0, w.heap.size, by omega, rfl, rfl, Nat.le_refl _, r1h.out, hB1h.out⟩
  case round =>
    obtain ⟨m, g, hm, rfl, rfl, hg, hr, hB⟩ := hrel
    clear r1h hB1h
    by_cases hlt : m < sh
    · have hrl := hr.lt
      have n0 := hfrh.out wr
      have rA := hr.alloc (.cells (madeCells #[.int .i64 0] (sh + 2)) 3)
      have rB := hB.alloc hB.size (.cells (madeCells #[.int .i64 0] (sh + 2)) 3)
      have hgs := hB.size
      have rAh := Lib.hid rA
      have rBh := Lib.hid rB
      have n0h := Lib.hid n0
      have hgne : g ≠ wr.heap.size := by omega
      clear rA rB n0 hr hB
      go_upto_region 9 with (fail)
      generalize wr.heap.size = h at *
      generalize World.alloc wr _ = V at *
      go_wp2_with fail
      go_loopw [44] (fun ii wi => ∃ i : Nat, i ≤ sh + 1 ∧ ii = .int .i64 i ∧ FRow wi g 3 .i64 (sh + 2) (odF L m) ∧ FRow wi h 3 .i64 (sh + 2) (nxF L m i) ∧ Below w.heap.size w wi) (fun ii _ => sh + 1 - (intOf ii).toNat)
      case atStart => exact ⟨0, by omega, rfl, rAh.out, n0h.out.congr (fun j _ => (nx_zero L m j).symm), rBh.out⟩
      case round =>
        obtain ⟨i, hi, rfl, hr, hx, hB⟩ := hrel
        clear rAh n0h rBh
        by_cases hil : i < sh + 1
        · have e1 := Lib.hid (nx_at L m i)
          have e2 := Lib.hid (nx_above L m i)
          have e3 := Lib.hid (fun j => nx_step L m i j)
          obtain ⟨p0, p1⟩ := od_bd L l0 l1 m i
          have a0 := (od_bd L l0 l1 (m + 1) i)
          have c0 := hr.cell i (by omega)
          have c1 := hx.cell i (by omega)
          have c2 := hx.cell (i + 1) (by omega)
          rw [e2.out] at c2
          have f1 := hx.fr i
          have f2 := hx.fr (i + 1)
          have hrh := Lib.hid hr
          have hxh := Lib.hid hx
          have hBh := Lib.hid hB
          have hrh2 := Lib.hid (fun (x y : Int) => (hr.other hgne i (.int .i64 x)).other hgne (i + 1) (.int .i64 y))
          have hxh2 := Lib.hid (fun (x y : Int) => (hx.set i x).set (i + 1) y)
          have hBh2 := Lib.hid (fun (x y : Int) => (hB.setCell (p := ⟨h, i, none⟩) (by show w.heap.size ≤ h; omega) (.int .i64 x)).setCell (p := ⟨h, i + 1, none⟩) (by show w.heap.size ≤ h; omega) (.int .i64 y))
          clear hr hx hB e2
          have e4 := e1.out
          have x0 : 0 ≤ nxF L m i i ∧ nxF L m i i ≤ 65536 := by
            have := Int.ediv_nonneg (Int.mul_nonneg p0 l0) (show (0 : Int) ≤ 65536 by omega)
            unfold nxF
            rw [if_neg (by omega), if_pos rfl]
            split
            · omega
            · obtain ⟨z0, z1⟩ := od_bd L l0 l1 m (i - 1)
              obtain ⟨y0, y1⟩ := prod_in _ (65536 - L) z0 z1 (by omega) (by omega)
              omega
          obtain ⟨y0, y1⟩ := prod_in _ L p0 p1 l0 l1
          obtain ⟨z0, z1⟩ := prod_in _ (65536 - L) p0 p1 (by omega) (by omega)
          have t1 : (odF L m i * L).tdiv 65536 = odF L m i * L / 65536 := Int.tdiv_eq_ediv_of_nonneg y0
          have t2 : (odF L m i * (65536 - L)).tdiv 65536 = odF L m i * (65536 - L) / 65536 := Int.tdiv_eq_ediv_of_nonneg z0
          generalize odF L m i = P at *
          generalize nxF L m i i = Q at *
          generalize odF L (m + 1) i = R at *
          clear e4 a0
          obtain ⟨x0, x1⟩ := x0
          have i1 : (i : Int) < (sh : Int) + 1 := by omega
          go_wp2_with fail
          go_roundw
          case rel => exact ⟨i + 1, by omega, by go_num, hrh2.out _ _, (hxh2.out _ _).congr (fun j hj => by rw [← e3.out j, ← e1.out, Int.zero_add]), hBh2.out _ _⟩
          case measure => simp [intOf]; omega
        · obtain rfl : i = sh + 1 := by omega
          have hx2 := hx.congr (fun j hj => nx_end L m (sh + 1) j (by omega) (by omega))
          have hxh := Lib.hid hx2
          clear hx hx2 hr
          go_wp2_with fail
          go_roundw
          case rel => exact ⟨m + 1, h, by omega, by go_num, rfl, hgs, hxh.out, hB⟩
          case measure => simp [intOf]; omega
    · obtain rfl : m = sh := by omega
      have hnn := od_nn L l0 l1 m
      have hst : Hid (∀ k, sumF (fromF b (odF L m)) (k + 1) = sumF (fromF b (odF L m)) k + (if b ≤ (k : Int) then odF L m k else 0)) := hide (fun k => by rw [sumF, fromF])
      have hbd := Lib.hid (fun k => from_bd b (odF L m) hnn k)
      have hbt := Lib.hid (fun k => od_sum L l0 l1 m k)
      have hodb := Lib.hid (fun k => od_bd L l0 l1 m k)
      have h0 : Hid (sumF (fromF b (odF L m)) 0 = 0) := hide (by rw [sumF])
      have hrh := Lib.hid hr
      have hBh := Lib.hid hB
      have hnb := Lib.hid hb
      clear hr hB hnn
      go_wp2_with fail
      go_loop [11, 76] (fun sm ii => ∃ i : Nat, i ≤ m + 2 ∧ ii = .int .i64 i ∧ sm = .int .i64 (sumF (fromF b (odF L m)) i)) (fun _ ii => m + 2 - (intOf ii).toNat)
      case atStart => exact ⟨0, by omega, rfl, by rw [h0.out]⟩
      case round =>
        obtain ⟨i, hi, rfl, rfl⟩ := hrel
        by_cases hil : i < m + 2
        · have c0 := hrh.out.cell i (by omega)
          have e1 := Lib.hid (hst.out i)
          obtain ⟨s0, s1⟩ := hbd.out i
          have s2 := (hbt.out i).2
          obtain ⟨p0, p1⟩ := hodb.out i
          have s3 : sumF (fromF b (odF L m)) i ≤ 65536 := by omega
          clear s1 s2
          generalize odF L m i = P at *
          generalize sumF (fromF b (odF L m)) i = S at *
          have i1 : (i : Int) < (m : Int) + 2 := by omega
          by_cases hb : b ≤ (i : Int)
          · have d1 : decide ((i : Int) ≥ b) = true := decide_eq_true hb
            have e2 : Hid (sumF (fromF b (odF L m)) (i + 1) = S + P) := hide (by rw [e1.out, if_pos hb])
            clear hb e1
            go_wp2_with fail
            go_round
            case rel => exact ⟨i + 1, by omega, by go_num, by rw [e2.out]⟩
            case measure => simp [intOf]; omega
          · have d1 : decide ((i : Int) ≥ b) = false := decide_eq_false hb
            have e2 : Hid (sumF (fromF b (odF L m)) (i + 1) = S) := hide (by rw [e1.out, if_neg hb, Int.add_zero])
            clear hb e1
            go_wp2_with fail
            go_round
            case rel => exact ⟨i + 1, by omega, by go_num, by rw [e2.out]⟩
            case measure => simp [intOf]; omega
        · obtain rfl : i = m + 2 := by omega
          have s1 := (hbd.out (m + 2)).2
          have s2 := (hbt.out (m + 2)).2
          generalize sumF (fromF b (odF L m)) (m + 2) = S at *
          have s3 : S ≤ 65536 := by omega
          clear s1 s2 hst h0 hbd hbt hodb
          go_wp2_with fail
          all_goals
            go_ret
            exact ⟨ret_int (by omega), hBh.out⟩
set_option maxRecDepth 100000 in
set_option maxHeartbeats 2000000 in
theorem r_odds_yes (sh : Nat) (b c : Int) (w : World) (h : sh ≤ 32) (hb : b ≤ (sh : Int)) :
    Calls Try.prog 14 #[.int .i64 (sh : Int), .int .i64 b, .int .i64 c] w (ValPost w (.int .i64 (sumF (fromF b (odF (clampZ c 0 65536) sh)) 34))) := by
  have hl := clampZ_bd c 0 65536 (by omega)
  have el := Lib.hid (fun x h => clamp_if x 0 65536 c (by omega) h)
  generalize clampZ c 0 65536 = L at *
  obtain ⟨l0, l1⟩ := hl
  have hmk : ∀ x : World, (Instr.makeSlice 43 (.int .i64 34) (.int .i64 34)).run Try.prog x = .ok (.slice (some ⟨x.heap.size, 0, none⟩) 34 34) (x.alloc (.cells (madeCells #[.int .i64 0] 34) 3)) := by
    intro x
    have := make_row (P := Try.prog) Try.underlying43 infoI 34 (by omega) (by decide) x
    simpa using this
  have hfr := fun x : World => frow_made x 3 .i64 34
  have hfrh := Lib.hid hfr
  clear hfr
  have d2 : decide ((sh : Int) < b) = false := decide_eq_false (by omega)
  go_enter Try.func14, Try.ntmps14
  go_upto_region 3 with (fail)
  go_cut [2] (fun v wx => v = .int .i64 L ∧ w = wx)
  case first =>
    go_wp2_with fail
    all_goals
      go_meet
      exact ⟨int_val (el.out _ (by split <;> (try split) <;> omega)), rfl⟩
  case rest =>
  obtain ⟨rfl, hwc⟩ := hcut
  subst hwc
  clear el
  go_upto_region 5 with (fail)
  have r0 := hfrh.out w
  have hB : Below w.heap.size w (w.alloc (.cells (madeCells #[.int .i64 0] 34) 3)) := (Below.refl _ _).alloc (Nat.le_refl _) _
  generalize World.alloc w _ = V at *
  have c0 := r0.cell 0 (by omega)
  have f0 := r0.fr 0
  have r0h := Lib.hid r0
  have hBh := Lib.hid hB
  clear r0 hB
  go_upto_region 6 with (fail)
  have r1 := row_one V w.heap.size 34 3 L r0h.out
  have hB1 : Below w.heap.size w (V.setCell ⟨w.heap.size, 0, none⟩ (.int .i64 65536)) := hBh.out.setCell (p := ⟨w.heap.size, 0, none⟩) (Nat.le_refl _) _
  generalize World.setCell V _ _ = V1 at *
  have r1h := Lib.hid r1
  have hB1h := Lib.hid hB1
  clear r1 hB1 r0h hBh c0 f0
  go_wp2_with fail
  go_loopw [7, 8] (fun row mi wr => ∃ (m g : Nat), m ≤ sh ∧ mi = .int .i64 m ∧ row = .slice (some ⟨g, 0, none⟩) 34 34 ∧ w.heap.size ≤ g ∧ FRow wr g 3 .i64 34 (odF L m) ∧ Below w.heap.size w wr) (fun _ mi _ => sh - (intOf mi).toNat)
  case atStart => exact ⟨0, w.heap.size, by omega, rfl, rfl, Nat.le_refl _, r1h.out, hB1h.out⟩
  case round =>
    obtain ⟨m, g, hm, rfl, rfl, hg, hr, hB⟩ := hrel
    clear r1h hB1h
    by_cases hlt : m < sh
    · have hrl := hr.lt
      have n0 := hfrh.out wr
      have rA := hr.alloc (.cells (madeCells #[.int .i64 0] 34) 3)
      have rB := hB.alloc hB.size (.cells (madeCells #[.int .i64 0] 34) 3)
      have hgs := hB.size
      have rAh := Lib.hid rA
      have rBh := Lib.hid rB
      have n0h := Lib.hid n0
      have hgne : g ≠ wr.heap.size := by omega
      clear rA rB n0 hr hB
      go_upto_region 10 with (fail)
      generalize wr.heap.size = h at *
      generalize World.alloc wr _ = V at *
      go_wp2_with fail
      go_loopw [10] (fun ii wi => ∃ i : Nat, i ≤ 33 ∧ ii = .int .i64 i ∧ FRow wi g 3 .i64 34 (odF L m) ∧ FRow wi h 3 .i64 34 (nxF L m i) ∧ Below w.heap.size w wi) (fun ii _ => 33 - (intOf ii).toNat)
      case atStart => exact ⟨0, by omega, rfl, rAh.out, n0h.out.congr (fun j _ => (nx_zero L m j).symm), rBh.out⟩
      case round =>
        obtain ⟨i, hi, rfl, hr, hx, hB⟩ := hrel
        clear rAh n0h rBh
        by_cases hil : i < 33
        · have e1 := Lib.hid (nx_at L m i)
          have e2 := Lib.hid (nx_above L m i)
          have e3 := Lib.hid (fun j => nx_step L m i j)
          obtain ⟨p0, p1⟩ := od_bd L l0 l1 m i
          have a0 := (od_bd L l0 l1 (m + 1) i)
          have c0 := hr.cell i (by omega)
          have c1 := hx.cell i (by omega)
          have c2 := hx.cell (i + 1) (by omega)
          rw [e2.out] at c2
          have f1 := hx.fr i
          have f2 := hx.fr (i + 1)
          have hrh := Lib.hid hr
          have hxh := Lib.hid hx
          have hBh := Lib.hid hB
          have hrh2 := Lib.hid (fun (x : Int) => (hr.other hgne i (.int .i64 x)).drew)
          have hc0 := Lib.hid (fun (x : Int) => (hr.other hgne i (.int .i64 x)).drew.cell i (by omega))
          have hxh2 := Lib.hid (fun (x : Int) => (hx.set i x).drew)
          have hx3 := Lib.hid (fun (x : Int) => (by have := (hx.set i x).drew.cell (i + 1) (by omega); rw [if_neg (by omega), e2.out] at this; exact this : ((wr.setCell ⟨h, i, none⟩ (.int .i64 x)).drew).cell? ⟨h, i + 1, none⟩ = some (.int .i64 0)))
          have hBh2 := Lib.hid (fun (x : Int) => below_drewN (hB.setCell (p := ⟨h, i, none⟩) (by show w.heap.size ≤ h; omega) (.int .i64 x)) 1)
          clear hr hx hB e2 hrh hxh hBh
          have e4 := e1.out
          have x0 : 0 ≤ nxF L m i i ∧ nxF L m i i ≤ 65536 := by
            have := Int.ediv_nonneg (Int.mul_nonneg p0 l0) (show (0 : Int) ≤ 65536 by omega)
            unfold nxF
            rw [if_neg (by omega), if_pos rfl]
            split
            · omega
            · obtain ⟨z0, z1⟩ := od_bd L l0 l1 m (i - 1)
              obtain ⟨y0, y1⟩ := prod_in _ (65536 - L) z0 z1 (by omega) (by omega)
              omega
          obtain ⟨y0, y1⟩ := prod_in _ L p0 p1 l0 l1
          obtain ⟨z0, z1⟩ := prod_in _ (65536 - L) p0 p1 (by omega) (by omega)
          have t1 : (odF L m i * L).tdiv 65536 = odF L m i * L / 65536 := Int.tdiv_eq_ediv_of_nonneg y0
          have t2 : (odF L m i * (65536 - L)).tdiv 65536 = odF L m i * (65536 - L) / 65536 := Int.tdiv_eq_ediv_of_nonneg z0
          generalize odF L m i = P at *
          generalize nxF L m i i = Q at *
          generalize odF L (m + 1) i = R at *
          clear e4 a0
          obtain ⟨x0, x1⟩ := x0
          have i1 : (i : Int) < 33 := by omega
          have i2 : (i : Int) < 34 := by omega
          have i3 : (i : Int) + 1 < 34 := by omega
          have j1 : IntKind.i64.wrap (P * L) = P * L := IntWalk.i64_in _ (by omega)
          have j2 : IntKind.i64.wrap (P * L / 65536) = P * L / 65536 := IntWalk.i64_in _ (by omega)
          have j3 : IntKind.i64.wrap (Q + P * L / 65536) = Q + P * L / 65536 := IntWalk.i64_in _ (by omega)
          have j4 : IntKind.i64.wrap (P * (65536 - L)) = P * (65536 - L) := IntWalk.i64_in _ (by omega)
          have j5 : IntKind.i64.wrap (P * (65536 - L) / 65536) = P * (65536 - L) / 65536 := IntWalk.i64_in _ (by omega)
          have j6 : IntKind.i64.wrap (0 + P * (65536 - L) / 65536) = P * (65536 - L) / 65536 := by rw [Int.zero_add]; exact j5
          have j7 : IntKind.i64.wrap ((i : Int) + 1) = (i : Int) + 1 := IntWalk.i64_in _ (by omega)
          have j8 : IntKind.i64.wrap (65536 - L) = 65536 - L := IntWalk.i64_in _ (by omega)
          have j9 : 0 ≤ (i : Int) + 1 := by omega
          have j0 : ((i : Int) + 1).toNat = i + 1 := by omega
          go_upto_region 13 with (fail)
          go_still_tail 15, (by kernel_rfl)
          go_upto_region 14 with (fail)
          have q1 := hrh2.out (Q + P * L / 65536)
          have q2 := hxh2.out (Q + P * L / 65536)
          have q3 := hx3.out (Q + P * L / 65536)
          have q4 := hBh2.out (Q + P * L / 65536)
          change Below w.heap.size w (World.drew _) at q4
          clear c0 c1 c2 f1 f2 hrh2 hxh2 hx3 hBh2
          have c0 := hc0.out (Q + P * L / 65536)
          clear hc0
          generalize World.drew _ = Z at *
          have f2 := q2.fr (i + 1)
          have q1h := Lib.hid (fun (y : Int) => (q1.other hgne (i + 1) (.int .i64 y)).drew)
          have q2h := Lib.hid (fun (y : Int) => (q2.set (i + 1) y).drew)
          have q4h := Lib.hid (fun (y : Int) => below_drewN (q4.setCell (p := ⟨h, i + 1, none⟩) (by show w.heap.size ≤ h; omega) (.int .i64 y)) 1)
          clear q1 q2 q4
          go_still_tail 18, (by kernel_rfl)
          go_wp2_with fail
          go_roundw
          case rel => exact ⟨i + 1, by omega, by go_num, q1h.out _, (q2h.out _).congr (fun j hj => by rw [← e3.out j, ← e1.out, Int.zero_add]), q4h.out _⟩
          case measure => simp [intOf]; omega
        · obtain rfl : i = 33 := by omega
          have hx2 := hx.congr (fun j hj => nx_end L m (33) j (by omega) (by omega))
          have hxh := Lib.hid hx2
          clear hx hx2 hr
          go_wp2_with fail
          go_roundw
          case rel => exact ⟨m + 1, h, by omega, by go_num, rfl, hgs, hxh.out, hB⟩
          case measure => simp [intOf]; omega
    · obtain rfl : m = sh := by omega
      have hnn := od_nn L l0 l1 m
      have hst : Hid (∀ k, sumF (fromF b (odF L m)) (k + 1) = sumF (fromF b (odF L m)) k + (if b ≤ (k : Int) then odF L m k else 0)) := hide (fun k => by rw [sumF, fromF])
      have hbd := Lib.hid (fun k => from_bd b (odF L m) hnn k)
      have hbt := Lib.hid (fun k => od_sum L l0 l1 m k)
      have hodb := Lib.hid (fun k => od_bd L l0 l1 m k)
      have h0 : Hid (sumF (fromF b (odF L m)) 0 = 0) := hide (by rw [sumF])
      have hrh := Lib.hid hr
      have hBh := Lib.hid hB
      have hnb := Lib.hid hb
      clear hr hB hnn
      go_wp2_with fail
      go_loop [11, 12] (fun sm ii => ∃ i : Nat, i ≤ 34 ∧ ii = .int .i64 i ∧ sm = .int .i64 (sumF (fromF b (odF L m)) i)) (fun _ ii => 34 - (intOf ii).toNat)
      case atStart => exact ⟨0, by omega, rfl, by rw [h0.out]⟩
      case round =>
        obtain ⟨i, hi, rfl, rfl⟩ := hrel
        by_cases hil : i < 34
        · have c0 := hrh.out.cell i (by omega)
          have e1 := Lib.hid (hst.out i)
          obtain ⟨s0, s1⟩ := hbd.out i
          have s2 := (hbt.out i).2
          obtain ⟨p0, p1⟩ := hodb.out i
          have s3 : sumF (fromF b (odF L m)) i ≤ 65536 := by omega
          clear s1 s2
          generalize odF L m i = P at *
          generalize sumF (fromF b (odF L m)) i = S at *
          have i1 : (i : Int) < 34 := by omega
          by_cases hb : b ≤ (i : Int)
          · have d1 : decide ((i : Int) ≥ b) = true := decide_eq_true hb
            have e2 : Hid (sumF (fromF b (odF L m)) (i + 1) = S + P) := hide (by rw [e1.out, if_pos hb])
            clear hb e1
            go_wp2_with fail
            go_round
            case rel => exact ⟨i + 1, by omega, by go_num, by rw [e2.out]⟩
            case measure => simp [intOf]; omega
          · have d1 : decide ((i : Int) ≥ b) = false := decide_eq_false hb
            have e2 : Hid (sumF (fromF b (odF L m)) (i + 1) = S) := hide (by rw [e1.out, if_neg hb, Int.add_zero])
            clear hb e1
            go_wp2_with fail
            go_round
            case rel => exact ⟨i + 1, by omega, by go_num, by rw [e2.out]⟩
            case measure => simp [intOf]; omega
        · obtain rfl : i = 34 := by omega
          have s1 := (hbd.out 34).2
          have s2 := (hbt.out 34).2
          generalize sumF (fromF b (odF L m)) 34 = S at *
          have s3 : S ≤ 65536 := by omega
          clear s1 s2 hst h0 hbd hbt hodb
          go_wp2_with fail
          all_goals
            go_ret
            exact ⟨ret_int (by omega), hBh.out⟩
end Go.Proofs.Ytpeloeiiaikadaa
