import Derived.Test.YtipfoclmdbbjiaaU25
import Derived.Test.YtipfoclmdbbjiaaU12
import Derived.Test.YtipfoclmdbbjiaaU04
import Derived.Test.YtipfoclmdbbjiaaU20
/- The contracts of the document's Need, of package stats' Better, of the law's Same and awake. Conditions: the state's numbers are as small as marks and trips leave them. -/
namespace Go.Proofs.Ytipfoclmdbbjiaa
open Go.RowKit
attribute [local irreducible] twZ tick8 clampZ floorZ satZ cdZ
set_option maxRecDepth 100000 in
theorem nd_mid (D limit : Int) (k : Nat) (hk : (k : Int) ≤ max limit 0) (hD : (k : Int) ≤ D) (h : limit ≤ (k : Int) ∨ D ≤ (k : Int)) : (k : Int) = clampZ D 0 (max limit 0) := by unfold clampZ; omega
set_option maxRecDepth 100000 in
set_option maxHeartbeats 1000000 in
theorem r_need (s : StS) (c count limit : Int) (w : World) (ok : StOk s c) (h0 : 0 ≤ count) (h1 : count ≤ 1000) (h2 : limit ≤ 1000) :
    Calls Try.prog 65 #[.agg (stA s), .int .i64 count, .int .i64 limit] w (ValPost w (.int .i64 (ndZ s.loss count limit))) := by
  obtain ⟨l0, l1, r0, r1, v0, v1, m0, m1, t0, t1⟩ := ok
  obtain ⟨loss, rtt, var, marks, trips⟩ := s
  simp only at l0 l1 r0 r1 v0 v1 m0 m1 t0 t1
  have hB : ∀ A, Below w.heap.size w (w.alloc A) := fun A => (Below.refl _ _).alloc (Nat.le_refl _) _
  have hBh := Lib.hid hB
  have hfew := Lib.hid (fun n => cdZ_few (count * 65536) (65536 - loss) n (by omega))
  have hcb := cdZ_bd (count * 65536) (65536 - loss) (by omega) (by omega)
  have hmid := Lib.hid (nd_mid (cdZ (count * 65536) (65536 - loss)) limit)
  unfold stA ndZ
  simp only
  rw [show max count 0 = count by omega]
  generalize hD : cdZ (count * 65536) (65536 - loss) = D at *
  have hDh := Lib.hid hD
  obtain ⟨d0, d1⟩ := hcb
  clear hB hD
  go_enter Try.func65, Try.ntmps65
  go_wp2_with fail
  go_loop [7] (fun v => ∃ k : Nat, (k : Int) ≤ max limit 0 ∧ (k : Int) ≤ D ∧ v = .int .i64 k) (fun v => (D - intOf v).toNat)
  case atStart => exact ⟨0, by omega, by omega, rfl⟩
  case round =>
    obtain ⟨k, hk1, hk2, rfl⟩ := hrel
    have hm := Lib.hid (hmid.out k hk1 hk2)
    have hk3 : (k : Int) ≤ 1000 := by omega
    have hp : 0 ≤ (k : Int) * (65536 - loss) := Int.mul_nonneg (by omega) (by omega)
    have hp2 : (k : Int) * (65536 - loss) ≤ 1000 * 65536 := Int.mul_le_mul hk3 (by omega) (by omega) (by omega)
    by_cases hlt : (k : Int) < limit
    · by_cases hd : (k : Int) < D
      · have hb : (k : Int) * (65536 - loss) < count * 65536 := (hfew.out k).2 hd
        clear hk1
        go_wp2_with fail
        go_round
        case rel => exact ⟨k + 1, by omega, by omega, by go_num⟩
        case measure => simp [intOf]; omega
      · have hb : decide ((k : Int) * (65536 - loss) < count * 65536) = false := decide_eq_false (fun h => hd ((hfew.out k).1 h))
        clear hk1
        go_wp2_with fail
        go_ret
        exact ⟨ret_int (hm.out (.inr (by omega))), hBh.out _⟩
    · have hb : decide ((k : Int) < limit) = false := decide_eq_false hlt
      clear hk1
      go_wp2_with fail
      go_ret
      exact ⟨ret_int (hm.out (.inl (by omega))), hBh.out _⟩
/-- Two states by value are the same, or not. -/
def steq (s t : StS) : Bool := s.loss == t.loss && s.rtt == t.rtt && s.var == t.var && s.marks == t.marks && s.trips == t.trips
/-! ### whole rows -/
set_option maxRecDepth 100000 in
theorem st_size5 (s : StS) : (stA s).size = 5 := by unfold stA; rfl
set_option maxRecDepth 100000 in
theorem st_plain (s : StS) : Plain (stA s) := by unfold Plain stA; simp [Value.oneCell']
set_option maxRecDepth 100000 in
theorem sst_info5 : (Try.prog.info? 137).map (·.size) = some 5 := by kernel_rfl
set_option maxRecDepth 100000 in
theorem ld_s0 (v : Value) : Instr.loadAt 137 v = wLoad 137 v := rfl
set_option maxRecDepth 100000 in
theorem ld_s (w : World) (b : Nat) : (wLoad 137 (.pointer (some ⟨b, 0, none⟩))).run Try.prog w = loadAns 5 w (blk w b) (wLoadRes Try.prog 137 b w) := run_wLoad Try.underlying137 rfl sst_info5 w b
set_option maxRecDepth 100000 in
theorem ld_r0 (v : Value) : Instr.loadAt 135 v = wLoad 135 v := rfl
set_option maxRecDepth 100000 in
theorem ld_r (w : World) (b : Nat) : (wLoad 135 (.pointer (some ⟨b, 0, none⟩))).run Try.prog w = loadAns 5 w (blk w b) (wLoadRes Try.prog 135 b w) := run_wLoad Try.underlying135 rfl rst_info5 w b
set_option maxRecDepth 100000 in
theorem sto_s0 (p x : Value) : Instr.storeAt 137 p x = wStore 137 p x := rfl
set_option maxRecDepth 100000 in
theorem sto_s (w : World) (b : Nat) (C : Array Value) : (wStore 137 (.pointer (some ⟨b, 0, none⟩)) (.agg C)).run Try.prog w = storeAns 5 w b C (blk w b) (wStoreRes Try.prog 137 b C w) := run_wStore sst_info5 w b C
set_option maxRecDepth 100000 in
theorem sto_r0 (p x : Value) : Instr.storeAt 135 p x = wStore 135 p x := rfl
set_option maxRecDepth 100000 in
theorem sto_r (w : World) (b : Nat) (C : Array Value) : (wStore 135 (.pointer (some ⟨b, 0, none⟩)) (.agg C)).run Try.prog w = storeAns 5 w b C (blk w b) (wStoreRes Try.prog 135 b C w) := run_wStore rst_info5 w b C
set_option maxRecDepth 100000 in
theorem zeroSt (w : World) : (zeroValue 137).run Try.prog w = .ok (.agg (stA z0T)) w := by kernel_rfl
set_option maxRecDepth 100000 in
theorem zeroRst (w : World) : (zeroValue 135).run Try.prog w = .ok (.agg (stA z0T)) w := by kernel_rfl
attribute [local irreducible] blk wLoad wLoadRes loadAns wStore wStoreRes storeAns Plain stA
attribute [local go_sem ↓] ld_s0 ld_r0 sto_s0 sto_r0
attribute [local go_sem] ld_s ld_r sto_s sto_r loadAns_some storeAns_some st_size5 st_plain blk_alloc_if blk_setRow_if blk_drew_at blk_drewN_at rowPut_some
set_option maxRecDepth 100000 in
theorem two_boxes (w : World) (A B : Obj) : ((w.alloc A).alloc B).heap[w.heap.size]? = some A ∧ ((w.alloc A).alloc B).heap[w.heap.size + 1]? = some B ∧ ((w.alloc A).alloc B).heap.size = w.heap.size + 2 ∧ Below w.heap.size w ((w.alloc A).alloc B) := by
  have s1 : ∀ (u : World) (o : Obj), (u.alloc o).heap.size = u.heap.size + 1 := fun u o => by show (u.heap.push _).size = _; rw [Array.size_push]
  exact ⟨blk_alloc (last_block0 _ _ _ rfl) _, last_block0 _ _ _ (s1 _ _).symm, by rw [s1, s1], ((Below.refl _ _).alloc (Nat.le_refl _) _).alloc (by rw [s1]; omega) _⟩
end Go.Proofs.Ytipfoclmdbbjiaa

/- The contracts of package redund's Target, New, Next and of the document's answer. Conditions: the numbers are integers of 64 bits; the state lies at the pointer. -/
namespace Go.Proofs.Ytipfoclmdbbjiaa
open Go.RowKit
attribute [local irreducible] clampZ floorZ satZ cdZ
/-- the target before it is held, of a loss and a count within their limits -/
def tgL (l k most : Int) : Int := if l = 0 ∨ k = 0 then 0 else clampZ (clampZ (cdZ (k * 65536) (65536 - l)) 0 255 - k + 1) 0 (max most 0)
def tgZ (k loss most : Int) : Int := tgL (clampZ loss 0 65535) (clampZ k 0 16) most
set_option maxRecDepth 100000 in
theorem clamp_if (x lo hi n : Int) (hl : lo ≤ hi) (h : x = if n < lo then lo else if n ≤ hi then n else hi) : x = clampZ n lo hi := by
  subst h; unfold clampZ
  split
  · omega
  · split <;> omega
set_option maxRecDepth 100000 in
theorem tgL_bd (l k most : Int) (h0 : 0 ≤ l) (h1 : l ≤ 65535) : 0 ≤ tgL l k most ∧ tgL l k most ≤ max most 0 := by
  unfold tgL
  split
  · omega
  · exact clampZ_bd _ _ _ (by omega)
set_option maxRecDepth 100000 in
theorem nd_in (l k : Int) (h0 : 0 ≤ l) (h1 : l ≤ 65535) (k0 : 0 ≤ k) (k1 : k ≤ 16) : 0 ≤ clampZ (cdZ (k * 65536) (65536 - l)) 0 255 ∧ clampZ (cdZ (k * 65536) (65536 - l)) 0 255 ≤ 255 := clampZ_bd _ _ _ (by omega)
set_option maxRecDepth 100000 in
theorem rst_arr (l : Int) : (Value.agg #[.int .i64 l, .int .i64 0, .int .i64 0, .int .i64 0, .int .i64 0]) = .agg (stA ⟨l, 0, 0, 0, 0⟩) := rfl
set_option maxRecDepth 100000 in
theorem ok_l (l : Int) (h0 : 0 ≤ l) (h1 : l ≤ 65535) : StOk ⟨l, 0, 0, 0, 0⟩ 0 := ⟨h0, h1, by simp, by simp, by simp, by simp, by simp, by simp, by simp, by simp⟩
set_option maxRecDepth 100000 in
theorem need_s (l k : Int) (W : World) (h0 : 0 ≤ l) (h1 : l ≤ 65535) (k0 : 0 ≤ k) (k1 : k ≤ 16) :
    Calls Try.prog 67 #[.agg #[.int .i64 l, .int .i64 0, .int .i64 0, .int .i64 0, .int .i64 0], .int .i64 k, .int .i64 255] W (ValPost W (.int .i64 (clampZ (cdZ (k * 65536) (65536 - l)) 0 255))) :=
  s_need_q l 0 0 0 0 k 255 k W h0 h1 (by rw [if_neg (by omega)]) (by omega) (by omega)
set_option maxRecDepth 100000 in
theorem need_r (l k : Int) (W : World) (h0 : 0 ≤ l) (h1 : l ≤ 65535) (k0 : 0 ≤ k) (k1 : k ≤ 16) :
    Calls Try.prog 65 #[.agg #[.int .i64 l, .int .i64 0, .int .i64 0, .int .i64 0, .int .i64 0], .int .i64 k, .int .i64 255] W (ValPost W (.int .i64 (clampZ (cdZ (k * 65536) (65536 - l)) 0 255))) := by
  have h := r_need ⟨l, 0, 0, 0, 0⟩ 0 k 255 W (ok_l l h0 h1) k0 (by omega) (by omega)
  unfold ndZ at h
  rw [show max k 0 = k by omega, show max (255 : Int) 0 = 255 by omega] at h
  exact h
set_option maxRecDepth 100000 in
theorem clamp_max (x m most : Int) (h : m = if most < 0 then 0 else most) : clampZ x 0 m = clampZ x 0 (max most 0) := by
  have : m = max most 0 := by subst h; split <;> omega
  rw [this]
set_option maxRecDepth 100000 in
set_option maxHeartbeats 1000000 in
theorem s_target (k loss most : Int) (w : World) :
    Calls Try.prog 52 #[.int .i64 k, .int .i64 loss, .int .i64 most] w (ValPost w (.int .i64 (tgZ k loss most))) := by
  have hl := clampZ_bd loss 0 65535 (by omega)
  have hk := clampZ_bd k 0 16 (by omega)
  have cl := Lib.hid (fun W => w_clamp loss 0 65535 W)
  have ck := Lib.hid (fun W => w_clamp k 0 16 W)
  unfold tgZ tgL
  generalize clampZ loss 0 65535 = l at *
  generalize clampZ k 0 16 = q at *
  obtain ⟨l0, l1⟩ := hl
  obtain ⟨q0, q1⟩ := hk
  by_cases hz : l = 0
  · rw [if_pos (.inl hz)]
    subst hz
    go_enter Try.func52, Try.ntmps52
    go_wp2_with fail
    refine (cl.out _).mono ?_
    rintro e w' ⟨rfl, rfl⟩
    go_wp2_with fail
    refine (ck.out _).mono ?_
    rintro e w' ⟨rfl, rfl⟩
    go_wp2_with fail
    go_ret
    exact ⟨rfl, Below.refl _ _⟩
  · by_cases hq : q = 0
    · rw [if_pos (.inr hq)]
      subst hq
      have hlz : (l == 0) = false := by simp; exact hz
      clear hz
      go_enter Try.func52, Try.ntmps52
      go_wp2_with fail
      refine (cl.out _).mono ?_
      rintro e w' ⟨rfl, rfl⟩
      go_wp2_with fail
      refine (ck.out _).mono ?_
      rintro e w' ⟨rfl, rfl⟩
      go_wp2_with fail
      go_ret
      exact ⟨rfl, Below.refl _ _⟩
    · rw [if_neg (by simp only [not_or]; exact ⟨hz, hq⟩)]
      have hlz : (l == 0) = false := by simp; exact hz
      have hqz : (q == 0) = false := by simp; exact hq
      have hn := nd_in l q l0 l1 q0 q1
      have hnd := Lib.hid (fun W => need_s l q W l0 l1 q0 q1)
      have hcm := Lib.hid (fun m h => clamp_max (clampZ (cdZ (q * 65536) (65536 - l)) 0 255 - q + 1) m most h)
      generalize clampZ (cdZ (q * 65536) (65536 - l)) 0 255 = n at *
      obtain ⟨n0, n1⟩ := hn
      have hB := Lib.hid (fun A : Obj => (Below.refl w.heap.size w).alloc (Nat.le_refl _) A)
      clear hz hq
      go_enter Try.func52, Try.ntmps52
      go_wp2_with fail
      refine (cl.out _).mono ?_
      rintro e w' ⟨rfl, rfl⟩
      go_wp2_with fail
      refine (ck.out _).mono ?_
      rintro e w' ⟨rfl, rfl⟩
      go_wp2_with fail
      refine (hnd.out _).mono ?_
      rintro e w1 ⟨rfl, hb1⟩
      have hb2 := (hB.out _).trans (hb1.mono (Nat.le_of_lt (by show _ < (w.heap.push _).size; rw [Array.size_push]; omega)))
      clear hb1
      go_wp2_with fail
      all_goals
        refine (w_clamp _ 0 _ _).mono ?_
        rintro e w' ⟨rfl, rfl⟩
        go_wp2_with fail
        go_ret
        exact ⟨ret_int (hcm.out _ (by split <;> (first | rfl | omega))), hb2⟩
set_option maxRecDepth 100000 in
theorem clamp_mm (x n most : Int) (h : x = if (if n < 0 then 0 else n) ≤ (if most < 0 then 0 else most) then (if n < 0 then 0 else n) else (if most < 0 then 0 else most)) : x = clampZ n 0 (max most 0) := by
  subst h
  unfold clampZ
  split <;> split <;> (try split) <;> omega
set_option maxRecDepth 100000 in
theorem tgL_0 (l k most : Int) (h : l = 0 ∨ k = 0) : 0 = tgL l k most := by unfold tgL; rw [if_pos h]
set_option maxRecDepth 100000 in
theorem tgL_1 (l k most x : Int) (h : ¬ l = 0) (h2 : ¬ k = 0) (hx : x = clampZ (clampZ (cdZ (k * 65536) (65536 - l)) 0 255 - k + 1) 0 (max most 0)) : x = tgL l k most := by
  unfold tgL; rw [if_neg (by simp only [not_or]; exact ⟨h, h2⟩)]; exact hx
set_option maxRecDepth 100000 in
set_option maxHeartbeats 1000000 in
theorem r_target (k loss most : Int) (w : World) :
    Calls Try.prog 51 #[.int .i64 k, .int .i64 loss, .int .i64 most] w (ValPost w (.int .i64 (tgZ k loss most))) := by
  have hl := clampZ_bd loss 0 65535 (by omega)
  have hk := clampZ_bd k 0 16 (by omega)
  have el := Lib.hid (fun x h => clamp_if x 0 65535 loss (by omega) h)
  have ek := Lib.hid (fun x h => clamp_if x 0 16 k (by omega) h)
  unfold tgZ
  generalize clampZ loss 0 65535 = l at *
  generalize clampZ k 0 16 = q at *
  obtain ⟨l0, l1⟩ := hl
  obtain ⟨q0, q1⟩ := hk
  go_enter Try.func51, Try.ntmps51
  go_upto_region 1 with (fail)
  go_cut [0, 1] (fun v0 v1 wx => v0 = .int .i64 q ∧ v1 = .int .i64 l ∧ wx = w)
  case first =>
    go_wp2_with fail
    all_goals
      go_meet
      exact ⟨int_val (ek.out _ (by split <;> (try split) <;> omega)), int_val (el.out _ (by split <;> (try split) <;> omega)), rfl⟩
  case rest =>
    obtain ⟨rfl, rfl, rfl⟩ := hcut
    by_cases hq : q = 0
    · subst hq
      go_wp2_with fail
      go_ret
      exact ⟨ret_int (tgL_0 _ _ _ (.inr rfl)), Below.refl _ _⟩
    · have hqz : (q == 0) = false := by simp; exact hq
      by_cases hz : l = 0
      · subst hz
        clear hq
        go_wp2_with fail
        go_ret
        exact ⟨ret_int (tgL_0 _ _ _ (.inl rfl)), Below.refl _ _⟩
      · have htg := Lib.hid (fun x hx => tgL_1 l q most x hz hq hx)
        have hlz : (l == 0) = false := by simp; exact hz
        have hn := nd_in l q l0 l1 q0 q1
        have hnd := Lib.hid (fun W => need_r l q W l0 l1 q0 q1)
        have hcm := Lib.hid (fun x h => clamp_mm x (clampZ (cdZ (q * 65536) (65536 - l)) 0 255 - q + 1) most h)
        generalize clampZ (cdZ (q * 65536) (65536 - l)) 0 255 = n at *
        obtain ⟨n0, n1⟩ := hn
        clear hz hq
        go_wp2_with fail
        refine (hnd.out _).mono ?_
        rintro e w1 ⟨rfl, hb1⟩
        go_wp2_with fail
        all_goals
          go_ret
          exact ⟨ret_int (htg.out _ (hcm.out _ (by (repeat' split) <;> (first | rfl | omega)))), hb1⟩
end Go.Proofs.Ytipfoclmdbbjiaa

/- The contracts of package redund's New and Next, and of the document's Next. Conditions: the state lies at the pointer, or comes by value. -/
namespace Go.Proofs.Ytipfoclmdbbjiaa
open Go.RowKit
structure CtS where
  now : Int
  most : Int
  calm : Int
def ctA (s : CtS) : Array Value := #[.int .i64 s.now, .int .i64 s.most, .int .i64 s.calm]
structure CtOk (s : CtS) : Prop where
  n0 : 0 ≤ s.now
  n1 : s.now ≤ 16
  m0 : 0 ≤ s.most
  m1 : s.most ≤ 16
  c0 : 0 ≤ s.calm
  c1 : s.calm ≤ 7
def ctNext (s : CtS) (t : Int) : CtS := if s.now ≤ t then ⟨t, s.most, 0⟩ else if 8 ≤ s.calm + 1 then ⟨s.now - 1, s.most, 0⟩ else ⟨s.now, s.most, s.calm + 1⟩
set_option maxRecDepth 100000 in
theorem ctNext_ok (s : CtS) (t : Int) (ok : CtOk s) (h0 : 0 ≤ t) (h1 : t ≤ max s.most 0) : CtOk (ctNext s t) := by
  obtain ⟨n0, n1, m0, m1, c0, c1⟩ := ok
  unfold ctNext
  split
  · exact ⟨h0, by simp only; omega, m0, m1, by simp, by simp⟩
  · split
    · exact ⟨by simp only; omega, by simp only; omega, m0, m1, by simp, by simp⟩
    · exact ⟨n0, n1, m0, m1, by simp only; omega, by simp only; omega⟩
def CtAt (w : World) (p : Nat) (s : CtS) : Prop := w.heap[p]? = some (.cells (ctA s) 102 (0, 0))
set_option maxRecDepth 100000 in
theorem CtAt.lt {w : World} {p : Nat} {s : CtS} (h : CtAt w p s) : p < w.heap.size := (Array.getElem?_eq_some_iff.1 h).1
set_option maxRecDepth 100000 in
theorem CtAt.c0 {w : World} {p : Nat} {s : CtS} (h : CtAt w p s) : w.cell? ⟨p, 0, none⟩ = some (.int .i64 s.now) := by rw [cell_of_block h]; rfl
set_option maxRecDepth 100000 in
theorem CtAt.c1 {w : World} {p : Nat} {s : CtS} (h : CtAt w p s) : w.cell? ⟨p, 1, none⟩ = some (.int .i64 s.most) := by rw [cell_of_block h]; rfl
set_option maxRecDepth 100000 in
theorem CtAt.c2 {w : World} {p : Nat} {s : CtS} (h : CtAt w p s) : w.cell? ⟨p, 2, none⟩ = some (.int .i64 s.calm) := by rw [cell_of_block h]; rfl
set_option maxRecDepth 100000 in
theorem CtAt.fr {w : World} {p : Nat} {s : CtS} (h : CtAt w p s) (i : Nat) : w.frozen? ⟨p, i, none⟩ = false := frozen_of_row w p i _ _ h
set_option maxRecDepth 100000 in
theorem CtAt.s0 {w : World} {p : Nat} {s : CtS} (h : CtAt w p s) (x : Int) : CtAt (w.setCell ⟨p, 0, none⟩ (.int .i64 x)) p { s with now := x } := blk_set h 0 _
set_option maxRecDepth 100000 in
theorem CtAt.s2 {w : World} {p : Nat} {s : CtS} (h : CtAt w p s) (x : Int) : CtAt (w.setCell ⟨p, 2, none⟩ (.int .i64 x)) p { s with calm := x } := blk_set h 2 _
def NewPost (W : World) (most : Int) (e : Ending) (W' : World) : Prop := e = .returned (.tuple #[.pointer (some ⟨W.heap.size, 0, none⟩), .int .i64 0]) ∧ CtAt W' W.heap.size ⟨0, most, 0⟩ ∧ Below W.heap.size W W'
set_option maxRecDepth 100000 in
set_option maxHeartbeats 1000000 in
theorem s_new_ok (most : Int) (w : World) (h0 : 0 ≤ most) (h1 : most ≤ 16) :
    Calls Try.prog 27 #[.int .i64 most] w (NewPost w most) := by
  have hd : decide (most < 0) = false := decide_eq_false (by omega)
  have hd2 : decide (16 < most) = false := decide_eq_false (by omega)
  have hfin : CtAt (w.alloc (.cells (ctA ⟨0, most, 0⟩) 102)) w.heap.size ⟨0, most, 0⟩ := last_block0 _ _ _ rfl
  have hfinh := Lib.hid hfin
  clear hfin
  go_enter Try.func27, Try.ntmps27
  go_wp2_with fail
  go_ret2
  exact ⟨rfl, hfinh.out, (Below.refl _ _).alloc (Nat.le_refl _) _⟩
set_option maxRecDepth 100000 in
set_option maxHeartbeats 1000000 in
theorem s_new_no (most : Int) (w : World) (h : most < 0 ∨ 16 < most) :
    Calls Try.prog 27 #[.int .i64 most] w fun e w' => e = .returned (.tuple #[.pointer none, .int .i64 1]) ∧ w = w' := by
  rcases h with h | h
  · have hd : decide (most < 0) = true := decide_eq_true h
    go_enter Try.func27, Try.ntmps27
    go_wp2_with fail
    go_ret2
    exact ⟨rfl, rfl⟩
  · have hd : decide (most < 0) = false := decide_eq_false (by omega)
    have hd2 : decide (16 < most) = true := decide_eq_true h
    go_enter Try.func27, Try.ntmps27
    go_wp2_with fail
    go_ret2
    exact ⟨rfl, rfl⟩
attribute [local irreducible] tgZ
def CtPost (W : World) (p : Nat) (s : CtS) (e : Ending) (W' : World) : Prop := e = .returned (.int .i64 s.now) ∧ CtAt W' p s ∧ W.grownBy W' (some p)
set_option maxRecDepth 100000 in
set_option maxHeartbeats 1000000 in
theorem s_next (p : Nat) (s : CtS) (k loss : Int) (w : World) (hs : CtAt w p s) (ok : CtOk s) (ht : 0 ≤ tgZ k loss s.most) (ht2 : tgZ k loss s.most ≤ 16) :
    Calls Try.prog 40 #[.pointer (some ⟨p, 0, none⟩), .int .i64 k, .int .i64 loss] w (CtPost w p (ctNext s (tgZ k loss s.most))) := by
  obtain ⟨n0, n1, m0, m1, k0, k1⟩ := ok
  have c1 := hs.c1
  have hl := hs.lt
  have htg := Lib.hid (s_target k loss s.most w)
  generalize tgZ k loss s.most = t at *
  unfold ctNext
  have hsh := hide hs
  clear hs
  by_cases h1 : s.now ≤ t
  · rw [if_pos h1]
    go_enter Try.func40, Try.ntmps40
    go_wp2_with fail
    refine htg.out.mono ?_
    rintro e w1 ⟨rfl, hb1⟩
    have hs1 : CtAt w1 p s := (hb1.block p hl).trans hsh.out
    have d0 := hs1.c0
    have d2 := hs1.c2
    have f0 := hs1.fr 0
    have f2 := hs1.fr 2
    have hg := only_of_below hb1 (some p)
    have hs1h := hide hs1
    clear hs1 hb1 c1
    go_wp2_with fail
    go_ret
    exact ⟨rfl, (hs1h.out.s0 t).s2 0, only_set (only_set hg 0 _) 2 _⟩
  · rw [if_neg h1]
    by_cases h2 : 8 ≤ s.calm + 1
    · rw [if_pos h2]
      go_enter Try.func40, Try.ntmps40
      go_wp2_with fail
      refine htg.out.mono ?_
      rintro e w1 ⟨rfl, hb1⟩
      have hs1 : CtAt w1 p s := (hb1.block p hl).trans hsh.out
      have d0 := hs1.c0
      have d2 := hs1.c2
      have f0 := hs1.fr 0
      have f2 := hs1.fr 2
      have hg := only_of_below hb1 (some p)
      have hs1h := hide hs1
      clear hs1 hb1 c1
      go_wp2_with fail
      go_ret
      exact ⟨rfl, (hs1h.out.s0 (s.now - 1)).s2 0, only_set (only_set hg 0 _) 2 _⟩
    · rw [if_neg h2]
      go_enter Try.func40, Try.ntmps40
      go_wp2_with fail
      refine htg.out.mono ?_
      rintro e w1 ⟨rfl, hb1⟩
      have hs1 : CtAt w1 p s := (hb1.block p hl).trans hsh.out
      have d0 := hs1.c0
      have d2 := hs1.c2
      have f0 := hs1.fr 0
      have f2 := hs1.fr 2
      have hg := only_of_below hb1 (some p)
      have hs1h := hide hs1
      clear hs1 hb1 c1
      go_wp2_with fail
      go_ret
      exact ⟨rfl, hs1h.out.s2 (s.calm + 1), only_set hg 2 _⟩
set_option maxRecDepth 100000 in
theorem rct_info3 : (Try.prog.info? 33).map (·.size) = some 3 := by kernel_rfl
def RCtPost (W : World) (s : CtS) (e : Ending) (W' : World) : Prop := e = .returned (.agg (ctA s)) ∧ Below W.heap.size W W'
set_option maxRecDepth 100000 in
theorem ct_plain (a b c : Int) : Plain #[.int .i64 a, .int .i64 b, .int .i64 c] := by unfold Plain; simp [Value.oneCell']
set_option maxRecDepth 100000 in
theorem ct_size (a b c : Int) : (#[.int .i64 a, .int .i64 b, .int .i64 c] : Array Value).size = 3 := by rfl
set_option maxRecDepth 100000 in
theorem sct_info3 : (Try.prog.info? 102).map (·.size) = some 3 := by kernel_rfl
set_option maxRecDepth 100000 in
theorem ld_rc0 (v : Value) : Instr.loadAt 33 v = wLoad 33 v := rfl
set_option maxRecDepth 100000 in
theorem ld_rc (w : World) (b : Nat) : (wLoad 33 (.pointer (some ⟨b, 0, none⟩))).run Try.prog w = loadAns 3 w (blk w b) (wLoadRes Try.prog 33 b w) := run_wLoad Try.underlying33 rfl rct_info3 w b
set_option maxRecDepth 100000 in
theorem sto_rc0 (p x : Value) : Instr.storeAt 33 p x = wStore 33 p x := rfl
set_option maxRecDepth 100000 in
theorem sto_rc (w : World) (b : Nat) (C : Array Value) : (wStore 33 (.pointer (some ⟨b, 0, none⟩)) (.agg C)).run Try.prog w = storeAns 3 w b C (blk w b) (wStoreRes Try.prog 33 b C w) := run_wStore rct_info3 w b C
attribute [local irreducible] blk wLoad wLoadRes loadAns wStore wStoreRes storeAns Plain
attribute [local go_sem ↓] ld_rc0 sto_rc0
attribute [local go_sem] ld_rc sto_rc loadAns_some storeAns_some ct_size ct_plain blk_alloc_if blk_setRow_if blk_setCell_if blk_drew_at blk_drewN_at rowPut_some cellPut_some
set_option maxRecDepth 100000 in
set_option maxHeartbeats 1000000 in
theorem r_next (s : CtS) (k loss : Int) (w : World) (ok : CtOk s) (ht : 0 ≤ tgZ k loss s.most) (ht2 : tgZ k loss s.most ≤ 16) :
    Calls Try.prog 39 #[.agg (ctA s), .int .i64 k, .int .i64 loss] w (RCtPost w (ctNext s (tgZ k loss s.most))) := by
  obtain ⟨n0, n1, m0, m1, k0, k1⟩ := ok
  have htg := Lib.hid (fun W => r_target k loss s.most W)
  obtain ⟨now, most, calm⟩ := s
  simp only at *
  generalize tgZ k loss most = t at *
  obtain ⟨hq0, hq1, hsz, hB⟩ := two_boxes w (.cells #[.int .i64 now, .int .i64 most, .int .i64 calm] 33) (.cells #[.int .i64 0, .int .i64 0, .int .i64 0] 33)
  have key : ∀ r : CtS, ctNext ⟨now, most, calm⟩ t = r → Calls Try.prog 39 #[.agg #[.int .i64 now, .int .i64 most, .int .i64 calm], .int .i64 k, .int .i64 loss] w (RCtPost w r) := by
    intro r hr
    have hrh := Lib.hid hr
    clear hr
    go_enter Try.func39, Try.ntmps39
    go_upto_region 1 with (fail)
    generalize World.alloc (World.alloc w _) _ = W at *
    have c1 : W.cell? ⟨w.heap.size, 1, none⟩ = some (.int .i64 most) := by rw [cell_of_block hq0]; rfl
    have hq0h := Lib.hid hq0
    have hq1h := Lib.hid hq1
    have hBh := Lib.hid hB
    clear hq0 hq1 hB
    go_wp2_with fail
    refine (htg.out _).mono ?_
    rintro e w1 ⟨rfl, hb1⟩
    have q0 : w1.heap[w.heap.size]? = some (.cells #[.int .i64 now, .int .i64 most, .int .i64 calm] 33 (0, 0)) := (hb1.block _ (by omega)).trans hq0h.out
    have q1 : w1.heap[w.heap.size + 1]? = some (.cells #[.int .i64 0, .int .i64 0, .int .i64 0] 33 (0, 0)) := (hb1.block _ (by omega)).trans hq1h.out
    have hB1 := hBh.out.trans (hb1.mono (by omega))
    have d0 : w1.cell? ⟨w.heap.size, 0, none⟩ = some (.int .i64 now) := by rw [cell_of_block q0]; rfl
    have d2 : w1.cell? ⟨w.heap.size, 2, none⟩ = some (.int .i64 calm) := by rw [cell_of_block q0]; rfl
    have f0 : w1.frozen? ⟨w.heap.size, 0, none⟩ = false := frozen_of_row w1 _ _ _ _ q0
    have f2 : w1.frozen? ⟨w.heap.size, 2, none⟩ = false := frozen_of_row w1 _ _ _ _ q0
    have b0 := blk_of q0
    have b1 := blk_of q1
    have q1h := Lib.hid q1
    have hs1 := Lib.hid (fun (x : World) (A : Array Value) (hx : x.heap[w.heap.size + 1]? = some (.cells #[.int .i64 0, .int .i64 0, .int .i64 0] 33 (0, 0))) => setRow_heap x (w.heap.size + 1) _ A _ _ hx)
    clear q0 q1 hb1 c1 hq0h hq1h hBh
    by_cases h1 : now ≤ t
    · go_wp2_with fail
      refine bodyPost_ret (v := .agg _) (results_cell_row rfl _ _ (w.heap.size + 1) 33 _ (0, 0) _ rfl (hs1.out _ _ ((heap_setCell_other _ _ _ _ (by simp)).trans ((heap_setCell_other _ _ _ _ (by simp)).trans q1h.out))) Try.underlying33 rfl rct_info3) rfl ⟨?_, below_setRow ((hB1.setCell (p := ⟨w.heap.size, 0, none⟩) (Nat.le_refl _) _).setCell (p := ⟨w.heap.size, 2, none⟩) (Nat.le_refl _) _) (by omega) _⟩
      rw [← hrh.out]; unfold ctNext; rw [if_pos h1]; rfl
    · by_cases h2 : 8 ≤ calm + 1
      · go_wp2_with fail
        refine bodyPost_ret (v := .agg _) (results_cell_row rfl _ _ (w.heap.size + 1) 33 _ (0, 0) _ rfl (hs1.out _ _ ((heap_setCell_other _ _ _ _ (by simp)).trans ((heap_setCell_other _ _ _ _ (by simp)).trans ((heap_setCell_other _ _ _ _ (by simp)).trans q1h.out)))) Try.underlying33 rfl rct_info3) rfl ⟨?_, below_setRow (((hB1.setCell (p := ⟨w.heap.size, 2, none⟩) (Nat.le_refl _) _).setCell (p := ⟨w.heap.size, 0, none⟩) (Nat.le_refl _) _).setCell (p := ⟨w.heap.size, 2, none⟩) (Nat.le_refl _) _) (by omega) _⟩
        rw [← hrh.out]; unfold ctNext; simp only; rw [if_neg (by omega), if_pos (by omega)]; rfl
      · go_wp2_with fail
        refine bodyPost_ret (v := .agg _) (results_cell_row rfl _ _ (w.heap.size + 1) 33 _ (0, 0) _ rfl (hs1.out _ _ ((heap_setCell_other _ _ _ _ (by simp)).trans q1h.out)) Try.underlying33 rfl rct_info3) rfl ⟨?_, below_setRow (hB1.setCell (p := ⟨w.heap.size, 2, none⟩) (Nat.le_refl _) _) (by omega) _⟩
        rw [← hrh.out]; unfold ctNext; simp only; rw [if_neg (by omega), if_neg (by omega)]; rfl
  exact key _ rfl
end Go.Proofs.Ytipfoclmdbbjiaa

/- The law's awake of layer 16, and what the laws' walks share. -/
namespace Go.Proofs.Ytipfoclmdbbjiaa
open Go.RowKit
set_option maxRecDepth 100000 in
theorem aw_t1 : tgZ 4 0 16 = 0 := by decide +kernel
set_option maxRecDepth 100000 in
theorem aw_t2 : tgZ 4 32768 16 = 5 := by decide +kernel
set_option maxRecDepth 100000 in
theorem cdZ_mono (a K K' : Int) (hK : 0 < K) (hK' : K ≤ K') (ha : 0 ≤ a) : cdZ a K' ≤ cdZ a K := by
  have h1 := cdZ_ge a K hK
  have h2 := cdZ_lt a K' (by omega)
  have h3 := cdZ_bd a K hK ha
  have h4 : cdZ a K * K ≤ cdZ a K * K' := Int.mul_le_mul_of_nonneg_left hK' h3.1
  by_cases h : cdZ a K' ≤ cdZ a K
  · exact h
  · exfalso
    have h5 : cdZ a K * K' ≤ (cdZ a K' - 1) * K' := Int.mul_le_mul_of_nonneg_right (by omega) (by omega)
    omega
set_option maxRecDepth 100000 in
theorem clampZ_mono (a b lo hi : Int) (h : a ≤ b) : clampZ a lo hi ≤ clampZ b lo hi := by unfold clampZ; omega
set_option maxRecDepth 100000 in
theorem tgZ_more (k loss most : Int) (h0 : 0 ≤ loss) (h1 : loss ≤ 65534) : tgZ k loss most ≤ tgZ k (loss + 1) most := by
  have hk := clampZ_bd k 0 16 (by omega)
  have e1 : clampZ loss 0 65535 = loss := clampZ_in _ _ _ h0 (by omega)
  have e2 : clampZ (loss + 1) 0 65535 = loss + 1 := clampZ_in _ _ _ (by omega) (by omega)
  have hb := tgL_bd (loss + 1) (clampZ k 0 16) most (by omega) (by omega)
  unfold tgZ
  rw [e1, e2]
  generalize clampZ k 0 16 = q at *
  by_cases hz : loss = 0 ∨ q = 0
  · have : tgL loss q most = 0 := (tgL_0 _ _ _ hz).symm
    omega
  · have hz1 : ¬ loss = 0 := fun h => hz (.inl h)
    have hz2 : ¬ q = 0 := fun h => hz (.inr h)
    rw [← tgL_1 loss q most _ hz1 hz2 rfl, ← tgL_1 (loss + 1) q most _ (by omega) hz2 rfl]
    apply clampZ_mono
    have h := clampZ_mono _ _ 0 255 (cdZ_mono (q * 65536) (65536 - (loss + 1)) (65536 - loss) (by omega) (by omega) (by omega))
    omega
set_option maxRecDepth 100000 in
theorem tgZ_bd (k loss most : Int) : 0 ≤ tgZ k loss most ∧ tgZ k loss most ≤ max most 0 := by
  have hl := clampZ_bd loss 0 65535 (by omega)
  exact tgL_bd _ _ _ hl.1 hl.2
attribute [local irreducible] tgZ
end Go.Proofs.Ytipfoclmdbbjiaa

/- A builder's state and its block. Lemmas alone. -/
namespace Go.Proofs.Ytipfoclmdbbjiaa
open Go.RowKit
structure GbS where
  ct : CtS
  size : Nat
  age : Nat
  no : Nat
  fi : Nat
  old : Nat
  n : Nat
  I : Nat → Nat
structure GbOk (s : GbS) : Prop where
  ct : CtOk s.ct
  s0 : 1 ≤ s.size
  s1 : s.size ≤ 16
  a0 : 1 ≤ s.age
  a1 : s.age ≤ 4096
  o1 : s.old ≤ 4096
  no : s.no < 4294967296
  fi : s.fi < 4294967296
  n : s.n ≤ 16
  I : ∀ j, s.I j < 65536
/-- the group of what waits: the state then -/
def gbClo (s : GbS) (loss : Int) : GbS := { s with ct := ctNext s.ct (tgZ s.n loss s.ct.most), no := (s.no + 1) % 4294967296, fi := (s.fi + s.n) % 4294967296, old := 0, n := 0 }
def gbA (tb cp : Nat) (s : GbS) (v : Value) : Array Value := #[.pointer (some ⟨tb, 0, none⟩), .pointer (some ⟨cp, 0, none⟩), .int .i64 s.size, .int .i64 s.age, .int .u32 s.no, .int .u32 s.fi, .int .i64 s.old, v]
structure BAt (w : World) (bp tb cp base : Nat) (s : GbS) (v : Value) : Prop where
  b : w.heap[bp]? = some (.cells (gbA tb cp s v) 81 (0, 0))
  own : OwnZ w base 39 .u16 v s.n (fun j => (s.I j : Nat))
  gf : IsGf w tb
  ct : CtAt w cp s.ct
set_option maxRecDepth 100000 in
theorem BAt.below {w w' : World} {bp tb cp base : Nat} {s : GbS} {v : Value} (h : BAt w bp tb cp base s v) (hb : Below w.heap.size w w') : BAt w' bp tb cp base s v :=
  ⟨(hb.block bp (Array.getElem?_eq_some_iff.1 h.b).1).trans h.b, h.own.below hb, h.gf.below hb h.gf.lt, (hb.block cp h.ct.lt).trans h.ct⟩
set_option maxRecDepth 100000 in
theorem BAt.lt {w : World} {bp tb cp base : Nat} {s : GbS} {v : Value} (h : BAt w bp tb cp base s v) : bp < w.heap.size := (Array.getElem?_eq_some_iff.1 h.b).1
set_option maxRecDepth 100000 in
/-- blocks of unlike types are unlike -/
theorem ty_ne {w : World} {p q : Nat} {c c' : Array Value} {T T' : TypeId} {f f' : Nat × Nat} (h : w.heap[p]? = some (.cells c T f)) (h' : w.heap[q]? = some (.cells c' T' f')) (hT : T ≠ T') : p ≠ q := fun e => by
  subst e
  rw [h] at h'
  injection h' with h'
  injection h' with _ h1
  exact hT h1
set_option maxRecDepth 100000 in
theorem BAt.ne_cp {w : World} {bp tb cp base : Nat} {s : GbS} {v : Value} (h : BAt w bp tb cp base s v) : bp ≠ cp := ty_ne h.b h.ct (by decide)
set_option maxRecDepth 100000 in
theorem BAt.ne_tb {w : World} {bp tb cp base : Nat} {s : GbS} {v : Value} (h : BAt w bp tb cp base s v) : tb ≠ bp := ty_ne h.gf h.b (by decide)
set_option maxRecDepth 100000 in
theorem BAt.ne_tc {w : World} {bp tb cp base : Nat} {s : GbS} {v : Value} (h : BAt w bp tb cp base s v) : tb ≠ cp := ty_ne h.gf h.ct (by decide)
set_option maxRecDepth 100000 in
theorem own_typeZ {w : World} {base n : Nat} {T : TypeId} {v : Value} {l : List Value} (h : w.ownsRow base T 1 v n l) (p : Nat) (hp : v.ownBlock = some p) : ∃ cur fr, w.heap[p]? = some (.cells cur T fr) := own_type h p hp
set_option maxRecDepth 100000 in
theorem BAt.own_ne {w : World} {bp tb cp base : Nat} {s : GbS} {v : Value} (h : BAt w bp tb cp base s v) {q : Nat} {c : Array Value} {T : TypeId} {f : Nat × Nat} (hq : w.heap[q]? = some (.cells c T f)) (hT : T ≠ 39) : v.ownBlock ≠ some q := fun e => by
  obtain ⟨cur, fr, h1⟩ := own_type h.own q e
  exact ty_ne h1 hq (fun e2 => hT e2.symm) rfl
/-- what a call on the builder leaves as it was -/
structure Kb (W W' : World) (bp cp : Nat) (v : Value) : Prop where
  os : W'.os = W.os
  tape : W'.tape = W.tape
  output : W'.output = W.output
  size : W.heap.size ≤ W'.heap.size
  block : ∀ q, q < W.heap.size → q ≠ bp → q ≠ cp → v.ownBlock ≠ some q → W'.heap[q]? = W.heap[q]?
set_option maxRecDepth 100000 in
theorem Kb.refl (W : World) (bp cp : Nat) (v : Value) : Kb W W bp cp v := ⟨rfl, rfl, rfl, Nat.le_refl _, fun _ _ _ _ _ => rfl⟩
set_option maxRecDepth 100000 in
theorem Kb.below {W W1 W2 : World} {bp cp : Nat} {v : Value} (h : Kb W W1 bp cp v) (hb : Below W1.heap.size W1 W2) : Kb W W2 bp cp v :=
  ⟨hb.os.trans h.os, hb.tape.trans h.tape, hb.output.trans h.output, Nat.le_trans h.size hb.size, fun q h1 h2 h3 h4 => (hb.block q (Nat.lt_of_lt_of_le h1 h.size)).trans (h.block q h1 h2 h3 h4)⟩
set_option maxRecDepth 100000 in
theorem Kb.grown {W W1 W2 : World} {bp cp : Nat} {v : Value} {row : Option Nat} (h : Kb W W1 bp cp v) (hg : W1.grownBy W2 row) (hr : ∀ q, row = some q → q = bp ∨ q = cp ∨ v.ownBlock = some q ∨ W.heap.size ≤ q) : Kb W W2 bp cp v :=
  ⟨hg.os.trans h.os, hg.tape.trans h.tape, hg.output.trans h.output, Nat.le_trans h.size hg.size, fun q h1 h2 h3 h4 => (hg.block q (Nat.lt_of_lt_of_le h1 h.size) (fun e => by
    rcases hr q e.symm with h5 | h5 | h5 | h5
    · exact h2 h5
    · exact h3 h5
    · exact h4 h5
    · omega)).trans (h.block q h1 h2 h3 h4)⟩
set_option maxRecDepth 100000 in
theorem Kb.to_below {W0 W W' : World} {bp cp B : Nat} {v : Value} (h : Kb W W' bp cp v) (hb : Below B W0 W) (hB : B ≤ W.heap.size) (h1 : B ≤ bp) (h2 : B ≤ cp) (hv : ∀ q, v.ownBlock = some q → B ≤ q) : Below B W0 W' :=
  ⟨h.os.trans hb.os, h.tape.trans hb.tape, h.output.trans hb.output, Nat.le_trans hb.size h.size, fun q hq => (h.block q (by omega) (by omega) (by omega) (fun e => by have := hv q e; omega)).trans (hb.block q hq)⟩
set_option maxRecDepth 100000 in
theorem OwnZ.kept2 {w w' : World} {base n : Nat} {T : TypeId} {k : IntKind} {v : Value} {f : Nat → Int} {row : Option Nat} (h : OwnZ w base T k v n f) (hg : w.grownBy w' row) (hne : v.ownBlock = none ∨ v.ownBlock ≠ row) : OwnZ w' base T k v n f := World.ownsRow.kept h hg hne
set_option maxRecDepth 100000 in
theorem infoIn : (Try.prog.info? 39).map (fun i => (i.zero, i.size, i.bytes)) = some (some (.int .u16 0), 1, 2) := by kernel_rfl
/-- what Add, Tick and close answer: none, or a group -/
def GpOut (W : World) (o : Option (Nat × Nat × Nat × Nat × (Nat → Nat))) (e : Ending) (W' : World) : Prop :=
  match o with
  | none => e = .returned (.tuple #[.agg #[.int .u32 0, .int .u32 0, .int .i64 0, .int .i64 0, .slice none 0 0], .bool false])
  | some (no, fi, K, m, I) => ∃ sd cap, e = .returned (.tuple #[.agg #[.int .u32 (no : Nat), .int .u32 (fi : Nat), .int .i64 (K : Nat), .int .i64 (m : Nat), .slice sd (K + m) cap], .bool true]) ∧ OwnS W' W.heap.size (.slice sd (K + m) cap) (K + m) 2 (grD K I)
def GbPost (W : World) (bp tb cp base : Nat) (v : Value) (s' : GbS) (o : Option (Nat × Nat × Nat × Nat × (Nat → Nat))) (e : Ending) (W' : World) : Prop :=
  ∃ v', BAt W' bp tb cp base s' v' ∧ (∀ b, v'.ownBlock = some b → v.ownBlock = some b ∨ W.heap.size ≤ b) ∧ Kb W W' bp cp v ∧ GpOut W o e W'
def gbGrp (s : GbS) (loss : Int) : Nat × Nat × Nat × Nat × (Nat → Nat) := (s.no, s.fi, s.n, (gbClo s loss).ct.now.toNat, s.I)
set_option maxRecDepth 100000 in
/-- a block of another type is written -/
theorem own_setG {y : World} {q m n base : Nat} {v : Value} {V : Nat → Nat → Nat} {C : Array Value} {T : TypeId} {fr : Nat × Nat} (h : OwnS y base v m n V) (hq : y.heap[q]? = some (.cells C T fr)) (h1 : T ≠ 58) (h2 : T ≠ 5) (D : Array Value) : OwnS (y.setRow q D) base v m n V := by
  refine h.kept (row := some q) (only_setRow (only_refl y _) (.inl rfl) _) ?_ (fun r hr => ?_)
  · rcases hv : v.ownBlock with _ | r
    · exact .inl rfl
    · refine .inr (fun e => ?_)
      injection e with e
      subst e
      obtain ⟨A, h3, _⟩ := h
      obtain ⟨cur, f, h4⟩ := own_type h3 r hv
      exact ty_ne h4 hq (fun e => h1 e.symm) rfl
  · injection hr with hr
    subst hr
    exact ⟨_, _, _, hq, h2⟩
end Go.Proofs.Ytipfoclmdbbjiaa
