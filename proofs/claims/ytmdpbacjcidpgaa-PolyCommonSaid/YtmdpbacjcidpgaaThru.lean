/- The contract of package poly's Through. Conditions: the slice's elements read as the points named, which have unlike places (or some have the same). -/
import Derived.Test.YtmdpbacjcidpgaaThruPlain
import Derived.Test.YtmdpbacjcidpgaaPoly4
namespace Go.Proofs.Ytmdpbacjcidpgaa
open Go.RowKit
attribute [local irreducible] gexp gtbl glog rmul rinv rpow zexp
def PtsAt (w : World) (s : Option Addr) (n : Nat) (X Y : Nat → Nat) : Prop := ∀ i, i < n → ∃ b off, s = some ⟨b, off, none⟩ ∧
  w.cell? ⟨b, off + i * 2, none⟩ = some (.int .u8 (X i : Nat)) ∧ w.cell? ⟨b, off + i * 2 + 1, none⟩ = some (.int .u8 (Y i : Nat))
theorem PtsAt.below {w w' : World} {a : Option Addr} {n : Nat} {X Y : Nat → Nat} (h : PtsAt w a n X Y) (hb : Below w.heap.size w w') : PtsAt w' a n X Y := by
  intro i hi
  obtain ⟨b, off, ha, c0, c1⟩ := h i hi
  have hl := cell_block_lt c0
  exact ⟨b, off, ha, (hb.cell (p := ⟨b, off + i * 2, none⟩) hl).trans c0, (hb.cell (p := ⟨b, off + i * 2 + 1, none⟩) hl).trans c1⟩
/-- a row of bools -/
def LRow (w : World) (g : Nat) (T : TypeId) (n : Nat) (f : Nat → Bool) : Prop :=
  ∃ C : Array Value, w.heap[g]? = some (.cells C T (0, 0)) ∧ n ≤ C.size ∧ ∀ i, i < n → C[i]? = some (.bool (f i))
section
variable {w w' : World} {g n : Nat} {T : TypeId} {f f' : Nat → Bool}
theorem LRow.cell (h : LRow w g T n f) (i : Nat) (hi : i < n) : w.cell? ⟨g, i, none⟩ = some (.bool (f i)) := by
  obtain ⟨C, hb, hs, hc⟩ := h
  rw [cell_of_block hb]; exact hc i hi
theorem LRow.fr (h : LRow w g T n f) (i : Nat) : w.frozen? ⟨g, i, none⟩ = false := by
  obtain ⟨C, hb, hs, hc⟩ := h
  exact frozen_of_row w g i C T hb
theorem LRow.lt (h : LRow w g T n f) : g < w.heap.size := by
  obtain ⟨C, hb, hs, hc⟩ := h
  exact (Array.getElem?_eq_some_iff.1 hb).1
theorem LRow.congr (h : LRow w g T n f) (e : ∀ j, j < n → f j = f' j) : LRow w g T n f' := by
  obtain ⟨C, hb, hs, hc⟩ := h
  exact ⟨C, hb, hs, fun i hi => by rw [hc i hi, e i hi]⟩
theorem LRow.keep (h : LRow w g T n f) (e : w'.heap[g]? = w.heap[g]?) : LRow w' g T n f := by
  obtain ⟨C, hb, hs, hc⟩ := h
  exact ⟨C, e.trans hb, hs, hc⟩
theorem LRow.alloc (h : LRow w g T n f) (o : Obj) : LRow (w.alloc o) g T n f := h.keep (Below.heap_alloc w o g h.lt)
theorem LRow.set (h : LRow w g T n f) (i : Nat) (x : Bool) : LRow (w.setCell ⟨g, i, none⟩ (.bool x)) g T n (fun j => if j = i then x else f j) := by
  obtain ⟨C, hb, hs, hc⟩ := h
  refine ⟨_, blk_set hb i _, by rw [Array.size_setIfInBounds]; exact hs, fun j hj => ?_⟩
  rw [Array.getElem?_setIfInBounds]
  by_cases e : i = j
  · subst e
    rw [if_pos rfl, if_pos (by omega)]
    simp
  · rw [if_neg e, hc j hj]
    have : ¬ j = i := fun h => e h.symm
    simp [this]
end
def seenC : Array Value := Array.replicate 256 (.bool false)
theorem zeroSeen (w : World) : (zeroValue 46).run Try.prog w = .ok (.agg seenC) w := by kernel_rfl
theorem seenC_get (i : Nat) (h : i < 256) : seenC[i]? = some (.bool false) := by unfold seenC; simp [h]
theorem seenC_size : seenC.size = 256 := by unfold seenC; simp
/-- what was seen among the first k -/
def snF (X : Nat → Nat) : Nat → Nat → Bool
  | 0, _ => false
  | k + 1, j => if j = X k then true else snF X k j
theorem sn_yes (X : Nat → Nat) (k j : Nat) : snF X k j = true ↔ ∃ i, i < k ∧ X i = j := by
  induction k with
  | zero => simp [snF]
  | succ k ih =>
    simp only [snF]
    by_cases e : j = X k
    · rw [if_pos e]; exact ⟨fun _ => ⟨k, by omega, e.symm⟩, fun _ => rfl⟩
    · rw [if_neg e, ih]
      constructor
      · rintro ⟨i, h1, h2⟩; exact ⟨i, by omega, h2⟩
      · rintro ⟨i, h1, h2⟩
        by_cases hk : i = k
        · subst hk; exact absurd h2.symm e
        · exact ⟨i, by omega, h2⟩
attribute [local irreducible] td cvs cv mixF xf OwnB snF seenC
/-- two have one place: the first such -/
def Twice (X : Nat → Nat) (n : Nat) : Prop := ∃ i k, k < i ∧ i < n ∧ X i = X k
def ErrPost (W : World) (c : Int) (e : Ending) (W' : World) : Prop := e = .returned (.tuple #[.slice none 0 0, .int .i64 c]) ∧ Below W.heap.size W W'
theorem twice_first (X : Nat → Nat) (n : Nat) (h : Twice X n) : ∃ m, m < n ∧ snF X m (X m) = true ∧ ∀ i, i < m → snF X i (X i) = false := by
  induction n with
  | zero => obtain ⟨i, k, h1, h2, h3⟩ := h; omega
  | succ n ih =>
    by_cases h2 : Twice X n
    · obtain ⟨m, q1, q2, q3⟩ := ih h2
      exact ⟨m, by omega, q2, q3⟩
    · have h3 : ∀ i, i < n → snF X i (X i) = false := by
        intro i hi
        cases hs : snF X i (X i)
        · rfl
        · obtain ⟨k, hk, he⟩ := (sn_yes X i (X i)).1 hs
          exact absurd ⟨i, k, hk, hi, he.symm⟩ h2
      obtain ⟨i, k, q1, q2, q3⟩ := h
      have : i = n := by
        by_cases e : i = n
        · exact e
        · exact absurd ⟨i, k, q1, by omega, q3⟩ h2
      subst this
      exact ⟨i, by omega, (sn_yes X i (X i)).2 ⟨k, q1, q3.symm⟩, h3⟩
theorem bool_true {b : Bool} (h : b = true) : Value.bool b = Value.bool true := by rw [h]
set_option maxHeartbeats 2000000 in
theorem p_through_no (p : Nat) (s : Option Addr) (n cap : Nat) (X Y : Nat → Nat) (w : World) (hp : PtsAt w s n X Y) (hX : ∀ k, X k < 256) (hn : n ≤ 100000) (h2 : Twice X n) :
    Calls Try.prog 9 #[.pointer (some ⟨p, 0, none⟩), .slice s n cap] w (ErrPost w 40) := by
  obtain ⟨m, hm, hm1, hm2⟩ := twice_first X n h2
  have hz := zeroSeen
  have hph := Lib.hid hp
  have hm1h := Lib.hid hm1
  have hm2h := Lib.hid hm2
  have hXh := Lib.hid hX
  have hs0 : LRow (w.alloc (.cells seenC 46)) w.heap.size 46 256 (snF X 0) := ⟨_, last_block0 w _ _ rfl, by rw [seenC_size]; omega, fun i hi => by rw [seenC_get i hi]; unfold snF; rfl⟩
  have hs0h := Lib.hid hs0
  have hB0 := Lib.hid ((Below.refl w.heap.size w).alloc (Nat.le_refl _) (.cells seenC 46))
  have hstep : Hid (∀ k j, (if j = X k then true else snF X k j) = snF X (k + 1) j) := hide (fun k j => by rw [snF])
  clear hp hm1 hm2 hX hs0 h2
  go_enter Try.func9, Try.ntmps9
  go_upto_region 2 with (fail)
  generalize World.alloc w _ = V at *
  clear hz
  go_wp2_with fail
  go_loopw [20] (fun v wr => ∃ k : Nat, k ≤ m ∧ v = .int .i64 k ∧ LRow wr w.heap.size 46 256 (snF X k) ∧ Below w.heap.size w wr) (fun v _ => n - (intOf v).toNat)
  case atStart => exact ⟨0, Nat.zero_le _, rfl, hs0h.out, hB0.out⟩
  case round =>
    obtain ⟨k, hk, rfl, hr, hB⟩ := hrel
    clear hs0h hB0
    obtain ⟨b, off, rfl, q0, q1⟩ := hph.out k (by omega)
    have c0 := (hB.cell (p := ⟨b, off + k * 2, none⟩) (cell_block_lt q0)).trans q0
    have c1 := (hB.cell (p := ⟨b, off + k * 2 + 1, none⟩) (cell_block_lt q1)).trans q1
    have i1 : (k : Int) < (n : Int) := by omega
    have hxk := hXh.out k
    have hBs := hB.size
    have v0 := last_block0 wr (.cells #[.int .u8 (X k : Nat), .int .u8 (Y k : Nat)] 31) _ rfl
    have vr := hr.alloc (.cells #[.int .u8 (X k : Nat), .int .u8 (Y k : Nat)] 31)
    have vB := hB.alloc hBs (.cells #[.int .u8 (X k : Nat), .int .u8 (Y k : Nat)] 31)
    clear q0 q1 hr hB
    go_upto_region 5 with (fail)
    have hol := blk_lt (blk_of v0)
    generalize wr.heap.size = o at *
    generalize World.alloc wr _ = U at *
    have e0 : U.cell? ⟨o, 0, none⟩ = some (.int .u8 (X k : Nat)) := by rw [cell_of_block v0]; rfl
    have e1 : U.cell? ⟨o, 1, none⟩ = some (.int .u8 (Y k : Nat)) := by rw [cell_of_block v0]; rfl
    have es := vr.cell (X k) hxk
    have ef := vr.fr (X k)
    have i2 : ((X k : Nat) : Int) < 256 := by omega
    have vBh := Lib.hid vB
    by_cases hkm : k < m
    · have hsk := hm2h.out k hkm
      have hset := Lib.hid ((vr.set (X k) true).congr (fun j _ => hstep.out k j))
      have hsB := Lib.hid (vB.setCell (p := ⟨w.heap.size, X k, none⟩) (Nat.le_refl _) (.bool true))
      rw [hsk] at es
      clear v0 vr vB c0 c1 hsk
      generalize X k = x at *
      go_wp2_with fail
      go_roundw
      case rel => exact ⟨k + 1, by omega, by go_num, hset.out, hsB.out⟩
      case measure => simp [intOf]; omega
    · obtain rfl : k = m := by omega
      rw [hm1h.out] at es
      clear v0 vr vB c0 c1
      go_wp2_with fail
      go_ret2
      exact ⟨rfl, vBh.out⟩
theorem p_scale (p a : Nat) (s : Option Addr) (n cap : Nat) (f : Nat → Nat) (w : World) (hg : IsGf w p) (ha : a < 256) (hs : Pv w s n cap f) (hf : Bd f) (hn : n ≤ 2000) :
    Calls Try.prog 29 #[.pointer (some ⟨p, 0, none⟩), .int .u8 a, .slice s n cap] w (RowPost w n (fun j => rmul a (f j))) := by
  have h := gf_scale p a s cap ((List.range n).map f) w hg ha hs.rd.sl (fun x hx => by obtain ⟨i, _, rfl⟩ := List.mem_map.1 hx; exact hf i) (by simp; exact hn)
  have e : ((List.range n).map f).length = n := by simp
  rw [e] at h
  refine h.mono fun e' w' hh => ?_
  obtain ⟨g, he, ho, hb⟩ := hh
  have e2 : (((List.range n).map f).map (rmul a)).length = n := by simp
  rw [e2] at he ho
  obtain ⟨q1, q2, q3⟩ := own_cap ho
  refine ⟨g, n, he, q3, q1, q2, FRow.own ho fun i hi => ?_, hb⟩
  rw [rowB_get]
  simp [hi]
/-- the two coefficients of x - c -/
theorem lin_row (w : World) (c : Nat) : BRow (w.alloc (.cells #[.int .u8 (c : Nat), .int .u8 1] 5)) w.heap.size 2 (linF c) := by
  refine ⟨_, last_block0 w _ _ rfl, by simp, fun i hi => ?_⟩
  have : i = 0 ∨ i = 1 := by omega
  rcases this with rfl | rfl <;> rfl
theorem one_row (w : World) : BRow (w.alloc (.cells #[.int .u8 1] 5)) w.heap.size 1 oneF := by
  refine ⟨_, last_block0 w _ _ rfl, by simp, fun i hi => ?_⟩
  obtain rfl : i = 0 := by omega
  rfl
theorem none_row (w : World) (f : Nat → Nat) : BRow (w.alloc (.cells #[] 5)) w.heap.size 0 f := ⟨_, last_block0 w _ _ rfl, by simp, fun i hi => absurd hi (by omega)⟩
def ThruPost (W : World) (n : Nat) (f : Nat → Nat) (e : Ending) (W' : World) : Prop := ∃ g cap, e = .returned (.tuple #[.slice (some ⟨g, 0, none⟩) n cap, .int .i64 0]) ∧ n ≤ cap ∧ cap ≤ maxLen ∧ BRow W' g n f ∧ W.heap.size ≤ g ∧ Below W.heap.size W W'
theorem xor_u8 (a b : Nat) (ha : a < 256) (hb : b < 256) : bits .xor .u8 (a : Nat) (b : Nat) = ((a ^^^ b : Nat) : Int) := u8_xor_nat a b ha hb
theorem p_mul_lb (p i t gb cb o4 : Nat) (X : Nat → Nat) (W : World) (hX : ∀ k, X k < 256) (hne : ¬ t = i) (ht : t ≤ 300) (hg : IsGf W p) (h1 : BRow W gb (fcN i t + 1) (lbF X i t)) (h2 : BRow W o4 2 (linF (X t))) (hc : fcN i t + 1 ≤ cb) (hc2 : cb ≤ maxLen) :
    Calls Try.prog 15 #[.pointer (some ⟨p, 0, none⟩), .slice (some ⟨gb, 0, none⟩) (fcN i t + 1) cb, .slice (some ⟨o4, 0, none⟩) 2 2] W (RowPost W (fcN i (t + 1) + 1) (lbF X i (t + 1))) := by
  obtain ⟨q1, q2, q3⟩ := lb_facts X hX i t
  obtain ⟨r1, r2, r3⟩ := lb_facts X hX i (t + 1)
  have hf := fc_le i t
  have h := p_mul p (some ⟨gb, 0, none⟩) (some ⟨o4, 0, none⟩) (fcN i t + 1) 2 cb 2 (lbF X i t) (linF (X t)) W hg (Pv.row h1 hc hc2) (Pv.row h2 (Nat.le_refl _) (by unfold maxLen; omega)) q1 (linF_bd _ (hX t)) q2 (linF_zr _) (by omega) (by omega)
  have e : lbF X i (t + 1) = cv (lbF X i t) (linF (X t)) := by rw [lbF, if_neg hne]
  rw [e] at r2 r3 ⊢
  have e2 := fc_next i t hne
  have e3 := td_more (cv (lbF X i t) (linF (X t))) (fcN i (t + 1) + 1) (fcN i t + 1 + 2) r2 (by omega)
  rw [e3, r3] at h
  exact h
theorem p_add_lg (i n g c gb cb : Nat) (X Y : Nat → Nat) (W : World) (hX : ∀ k, X k < 256) (hi : i < n) (hn : n ≤ 300) (h1 : BRow W g (td (lgF X Y n i) n) (lgF X Y n i)) (hc : td (lgF X Y n i) n ≤ c) (hc2 : c ≤ maxLen)
    (h2 : BRow W gb n (fun j => rmul (rmul (Y i) (rinv (prF X i (X i) n))) (lbF X i n j))) (hc3 : n ≤ cb) (hc4 : cb ≤ maxLen) :
    Calls Try.prog 17 #[.slice (some ⟨g, 0, none⟩) (td (lgF X Y n i) n) c, .slice (some ⟨gb, 0, none⟩) n cb] W (RowPost W (td (lgF X Y n (i + 1)) n) (lgF X Y n (i + 1))) := by
  obtain ⟨q1, q2⟩ := lg_facts X Y hX n i (by omega)
  obtain ⟨b1, b2, _⟩ := lb_facts X hX i n
  have hf : fcN i n + 1 = n := by unfold fcN; rw [if_pos hi]; omega
  rw [hf] at b2
  have hl := td_le (lgF X Y n i) n
  have h := p_add (some ⟨g, 0, none⟩) (some ⟨gb, 0, none⟩) (td (lgF X Y n i) n) n c cb (lgF X Y n i) (fun j => rmul (rmul (Y i) (rinv (prF X i (X i) n))) (lbF X i n j)) W (Pv.row h1 hc hc2) (Pv.row h2 hc3 hc4) q1 (fun j => rmul_lt _ _) (td_zr _ n q2) (fun j hj => by dsimp only; rw [b2 j hj, rmul_zero_right]) (by omega) (by omega)
  rw [Nat.max_eq_right hl] at h
  have e : lgF X Y n (i + 1) = xf (lgF X Y n i) (fun j => rmul (rmul (Y i) (rinv (prF X i (X i) n))) (lbF X i n j)) := funext fun j => by unfold xf; rfl
  rw [e]
  exact h
theorem lg_none (X Y : Nat → Nat) (n : Nat) : td (lgF X Y n 0) n = 0 := td_uniq _ _ 0 (fun _ _ _ => rfl) (fun h => absurd h (by omega)) (Nat.zero_le _)
theorem fc_all (i n : Nat) (hi : i < n) : fcN i n + 1 = n := by unfold fcN; rw [if_pos hi]; omega
theorem fc_zero (i : Nat) : fcN i 0 = 0 := by unfold fcN; split <;> rfl
theorem lb_zero (X : Nat → Nat) (i : Nat) : lbF X i 0 = oneF := rfl
theorem pr_none (X : Nat → Nat) (i x : Nat) : prF X i x 0 = 1 := rfl
theorem pr_next (X : Nat → Nat) (i x k : Nat) (h : ¬ k = i) : prF X i x (k + 1) = rmul (prF X i x k) (x ^^^ X k) := by rw [prF, if_neg h]
theorem pr_same (X : Nat → Nat) (i x : Nat) : prF X i x (i + 1) = prF X i x i := by rw [prF, if_pos rfl]
theorem lb_same (X : Nat → Nat) (i : Nat) : lbF X i (i + 1) = lbF X i i := by rw [lbF, if_pos rfl]
attribute [local irreducible] lbF prF lgF linF oneF fcN
set_option maxRecDepth 100000 in
set_option maxHeartbeats 4000000 in
theorem p_through (p : Nat) (s : Option Addr) (n cap : Nat) (X Y : Nat → Nat) (w : World) (hgf : IsGf w p) (hp : PtsAt w s n X Y) (hX : ∀ k, X k < 256) (hY : ∀ k, Y k < 256) (hn : n ≤ 256) (hd : ∀ a b, a < n → b < n → a ≠ b → X a ≠ X b) :
    Calls Try.prog 9 #[.pointer (some ⟨p, 0, none⟩), .slice s n cap] w (ThruPost w (td (lgF X Y n n) n) (lgF X Y n n)) := by
  have hm2 : ∀ k, k < n → snF X k (X k) = false := by
    intro k hk
    cases hs : snF X k (X k)
    · rfl
    · obtain ⟨i, hi, he⟩ := (sn_yes X k (X k)).1 hs
      exact absurd he (hd i k (by omega) hk (by omega))
  have hz := zeroSeen
  have hph := Lib.hid hp
  have hm2h := Lib.hid hm2
  have hXh := Lib.hid hX
  have hYh := Lib.hid hY
  have hs0 : LRow (w.alloc (.cells seenC 46)) w.heap.size 46 256 (snF X 0) := ⟨_, last_block0 w _ _ rfl, by rw [seenC_size]; omega, fun i hi => by rw [seenC_get i hi]; unfold snF; rfl⟩
  have hs0h := Lib.hid hs0
  have hB0 := Lib.hid ((Below.refl w.heap.size w).alloc (Nat.le_refl _) (.cells seenC 46))
  have hstep : Hid (∀ k j, (if j = X k then true else snF X k j) = snF X (k + 1) j) := hide (fun k j => by rw [snF])
  have hgfh := hide hgf
  have hpl := hgf.lt
  have hpr := Lib.hid (fun i hi => pr_ne X hX i n n hi (Nat.le_refl _) hd)
  have hlg := Lib.hid (fun i hi => lg_facts X Y hX n i hi)
  have hlb := Lib.hid (fun i k => lb_facts X hX i k)
  clear hp hm2 hX hY hs0 hd hgf
  go_enter Try.func9, Try.ntmps9
  go_upto_region 2 with (fail)
  generalize World.alloc w _ = V at *
  clear hz
  go_wp2_with fail
  go_loopw [20] (fun v wr => ∃ k : Nat, k ≤ n ∧ v = .int .i64 k ∧ LRow wr w.heap.size 46 256 (snF X k) ∧ Below w.heap.size w wr) (fun v _ => n - (intOf v).toNat)
  case atStart => exact ⟨0, Nat.zero_le _, rfl, hs0h.out, hB0.out⟩
  case round =>
    obtain ⟨k, hk, rfl, hr, hB⟩ := hrel
    clear hs0h hB0
    by_cases hkn : k < n
    · obtain ⟨b, off, rfl, q0, q1⟩ := hph.out k (by omega)
      have c0 := (hB.cell (p := ⟨b, off + k * 2, none⟩) (cell_block_lt q0)).trans q0
      have c1 := (hB.cell (p := ⟨b, off + k * 2 + 1, none⟩) (cell_block_lt q1)).trans q1
      have i1 : (k : Int) < (n : Int) := by omega
      have hxk := hXh.out k
      have hBs := hB.size
      have v0 := last_block0 wr (.cells #[.int .u8 (X k : Nat), .int .u8 (Y k : Nat)] 31) _ rfl
      have vr := hr.alloc (.cells #[.int .u8 (X k : Nat), .int .u8 (Y k : Nat)] 31)
      have vB := hB.alloc hBs (.cells #[.int .u8 (X k : Nat), .int .u8 (Y k : Nat)] 31)
      clear q0 q1 hr hB
      go_upto_region 5 with (fail)
      have hol := blk_lt (blk_of v0)
      generalize wr.heap.size = o at *
      generalize World.alloc wr _ = U at *
      have e0 : U.cell? ⟨o, 0, none⟩ = some (.int .u8 (X k : Nat)) := by rw [cell_of_block v0]; rfl
      have e1 : U.cell? ⟨o, 1, none⟩ = some (.int .u8 (Y k : Nat)) := by rw [cell_of_block v0]; rfl
      have es := vr.cell (X k) hxk
      have ef := vr.fr (X k)
      have i2 : ((X k : Nat) : Int) < 256 := by omega
      have hsk := hm2h.out k hkn
      have hset := Lib.hid ((vr.set (X k) true).congr (fun j _ => hstep.out k j))
      have hsB := Lib.hid (vB.setCell (p := ⟨w.heap.size, X k, none⟩) (Nat.le_refl _) (.bool true))
      rw [hsk] at es
      clear v0 vr vB c0 c1 hsk
      generalize X k = x at *
      go_wp2_with fail
      go_roundw
      case rel => exact ⟨k + 1, by omega, by go_num, hset.out, hsB.out⟩
      case measure => simp [intOf]; omega
    · obtain rfl : k = n := by omega
      have hBs := hB.size
      have hBh := Lib.hid (hB.alloc hBs (.cells #[] 5))
      have hr0 := Lib.hid (none_row wr (lgF X Y k 0))
      have hgw : w.heap.size ≤ wr.heap.size := hBs
      clear hr hB hm2h hstep
      go_upto_region 10 with (fail)
      generalize wr.heap.size = g0 at *
      generalize World.alloc wr _ = U at *
      go_wp2_with fail
      go_loopw [9, 35] (fun o v wr => ∃ (i g c : Nat), i ≤ k ∧ v = .int .i64 i ∧ o = .slice (some ⟨g, 0, none⟩) (td (lgF X Y k i) k) c ∧ td (lgF X Y k i) k ≤ c ∧ c ≤ maxLen ∧ BRow wr g (td (lgF X Y k i) k) (lgF X Y k i) ∧ w.heap.size ≤ g ∧ Below w.heap.size w wr) (fun _ v _ => k - (intOf v).toNat)
      case atStart => exact ⟨0, g0, 0, Nat.zero_le _, rfl, by rw [lg_none], by rw [lg_none]; exact Nat.zero_le _, by unfold maxLen; omega, by rw [lg_none]; exact hr0.out, hgw, hBh.out⟩
      case round =>
        obtain ⟨i, g, c, hi, rfl, rfl, hc0, hc1, hr, hwg, hB⟩ := hrel
        clear hr0 hBh
        by_cases hik : i < k
        · obtain ⟨b, off, rfl, q0, q1⟩ := hph.out i hik
          have c0 := (hB.cell (p := ⟨b, off + i * 2, none⟩) (cell_block_lt q0)).trans q0
          have c1 := (hB.cell (p := ⟨b, off + i * 2 + 1, none⟩) (cell_block_lt q1)).trans q1
          have i1 : (i : Int) < (k : Int) := by omega
          have hxi := hXh.out i
          have hyi := hYh.out i
          have hBs := hB.size
          have hrl := hr.lt
          have v0 := last_block0 wr (.cells #[.int .u8 (X i : Nat), .int .u8 (Y i : Nat)] 31) _ rfl
          have vr : BRow (wr.alloc (.cells #[.int .u8 (X i : Nat), .int .u8 (Y i : Nat)] 31)) g _ _ := FRow.alloc hr _
          have vB := hB.alloc hBs (.cells #[.int .u8 (X i : Nat), .int .u8 (Y i : Nat)] 31)
          clear q0 q1 hr hB
          go_upto_region 13 with (fail)
          have hol := blk_lt (blk_of v0)
          generalize wr.heap.size = o at *
          generalize World.alloc wr _ = U1 at *
          clear c0 c1
          have u0 := blk_alloc v0 (.cells #[.int .u8 1] 5)
          have ur : BRow (U1.alloc (.cells #[.int .u8 1] 5)) g _ _ := FRow.alloc vr _
          have uB := vB.alloc vB.size (.cells #[.int .u8 1] 5)
          have u1 := one_row U1
          have ul := u1.lt
          have ugs := vB.size
          clear v0 vr vB
          go_upto_region 14 with (fail)
          generalize U1.heap.size = o2 at *
          generalize World.alloc U1 _ = U2 at *
          go_wp2_with fail
          go_loopw [12, 13, 43] (fun ba sc v wr => ∃ (t gb cb : Nat), t ≤ k ∧ v = .int .i64 t ∧ ba = .slice (some ⟨gb, 0, none⟩) (fcN i t + 1) cb ∧ fcN i t + 1 ≤ cb ∧ cb ≤ maxLen ∧ BRow wr gb (fcN i t + 1) (lbF X i t) ∧ sc = .int .u8 (prF X i (X i) t : Nat) ∧ Below U2.heap.size U2 wr) (fun _ _ v _ => k - (intOf v).toNat)
          case atStart => exact ⟨0, o2, 1, Nat.zero_le _, rfl, by rw [fc_zero], by rw [fc_zero]; omega, by unfold maxLen; omega, by rw [fc_zero, lb_zero]; exact u1, by rw [pr_none]; rfl, Below.refl _ _⟩
          case round =>
            obtain ⟨t, gb, cb, ht, rfl, rfl, hcb, hcb2, hbr, rfl, hBt⟩ := hrel
            clear u1
            have hwx := uB.trans (hBt.mono uB.size)
            have w0 := (hBt.block o (by omega)).trans u0
            have hgx := hgfh.out.below hwx hpl
            have hbl := hbr.lt
            have hwxs := hBt.size
            by_cases htk : t < k
            · obtain ⟨b2, off2, hbe, q0, q1⟩ := hph.out t htk
              injection hbe with hbe
              injection hbe with hb1 hb2
              subst hb1 hb2
              have c0 := (hwx.cell (p := ⟨b, off + t * 2, none⟩) (cell_block_lt q0)).trans q0
              have c1 := (hwx.cell (p := ⟨b, off + t * 2 + 1, none⟩) (cell_block_lt q1)).trans q1
              have i2 : (t : Int) < (k : Int) := by omega
              have hxt := hXh.out t
              have x0 := blk_alloc w0 (.cells #[.int .u8 (X t : Nat), .int .u8 (Y t : Nat)] 31)
              have x1 := last_block0 wr (.cells #[.int .u8 (X t : Nat), .int .u8 (Y t : Nat)] 31) _ rfl
              have xb : BRow (wr.alloc (.cells #[.int .u8 (X t : Nat), .int .u8 (Y t : Nat)] 31)) gb _ _ := FRow.alloc hbr _
              have xB := hBt.alloc hBt.size (.cells #[.int .u8 (X t : Nat), .int .u8 (Y t : Nat)] 31)
              have hgx3 := hgx.alloc (.cells #[.int .u8 (X t : Nat), .int .u8 (Y t : Nat)] 31)
              clear q0 q1 hbr hBt w0 hgx hwx
              go_upto_region 17 with (fail)
              clear c0 c1
              have x1l := blk_lt (blk_of x1)
              generalize wr.heap.size = o3 at *
              generalize World.alloc wr _ = U3 at *
              by_cases hti : t = i
              · subst hti
                go_wp2_with fail
                go_roundw
                case rel => exact ⟨t + 1, gb, cb, by omega, by go_num, by rw [fc_same], by rw [fc_same]; exact hcb, hcb2, by rw [fc_same, lb_same]; exact xb, by rw [pr_same], xB⟩
                case measure => simp [intOf]; omega
              · have d1 : ((t : Int) == (i : Int)) = false := by simp; omega
                have d2 : ((t : Int) != (i : Int)) = true := by simp [bne]; omega
                have e0 : U3.cell? ⟨o3, 0, none⟩ = some (.int .u8 (X t : Nat)) := by rw [cell_of_block x1]; rfl
                have y0 := blk_alloc x0 (.cells #[.int .u8 (X t : Nat), .int .u8 1] 5)
                have y1 := blk_alloc x1 (.cells #[.int .u8 (X t : Nat), .int .u8 1] 5)
                have yb : BRow (U3.alloc (.cells #[.int .u8 (X t : Nat), .int .u8 1] 5)) gb _ _ := FRow.alloc xb _
                have yB := xB.alloc xB.size (.cells #[.int .u8 (X t : Nat), .int .u8 1] 5)
                have yg := hgx3.alloc (.cells #[.int .u8 (X t : Nat), .int .u8 1] 5)
                have yl := lin_row U3 (X t)
                have km := Lib.hid (p_mul_lb p i t gb cb U3.heap.size X _ hXh.out hti (by omega) yg yb yl hcb hcb2)
                have hys := yl.lt
                have hBs3 := xB.size
                clear x0 x1 xb xB hgx3 yb yl
                have hy0 := Lib.hid y0
                have hy1 := Lib.hid y1
                have hyB := Lib.hid yB
                have hyg := Lib.hid yg
                clear y0 y1 yB yg
                go_wp2_with fail
                refine km.out.mono ?_
                rintro e w6 ⟨g6, c6, rfl, z1, z2, z3, z4, z5⟩
                have z0 := (z5.block o (by omega)).trans hy0.out
                have z01 := (z5.block o3 (by omega)).trans hy1.out
                have zB := hyB.out.trans (z5.mono (by omega))
                have zg := hyg.out.below z5 hyg.out.lt
                have e0' : w6.cell? ⟨o, 0, none⟩ = some (.int .u8 (X i : Nat)) := by rw [cell_of_block z0]; rfl
                have e1' : w6.cell? ⟨o3, 0, none⟩ = some (.int .u8 (X t : Nat)) := by rw [cell_of_block z01]; rfl
                have hu := xor_u8 (X i) (X t) hxi hxt
                have hmul := Lib.hid (gf_mul p (prF X i (X i) t) (X i ^^^ X t) w6 zg (pr_lt X i (X i) t) (xor_lt8 hxi hxt))
                have hzz := Lib.hid (pr_next X i (X i) t hti)
                have hfn := Lib.hid (fc_next i t hti)
                clear e0 z0 z01 zg z5 hy0 hy1 hyB hyg km
                have hzB := Lib.hid zB
                have hz4 := Lib.hid z4
                clear zB z4
                go_wp2_with fail
                refine hmul.out.mono ?_
                rintro e w' ⟨rfl, m7, rfl⟩
                go_wp2_with fail
                go_roundw
                case rel => exact ⟨t + 1, g6, c6, by omega, by go_num, rfl, z2, z3, FRow.drewN hz4.out m7, by rw [hzz.out], below_drewN hzB.out m7⟩
                case measure => simp [intOf]; omega
            · obtain rfl : t = k := by omega
              have e1 : wr.cell? ⟨o, 1, none⟩ = some (.int .u8 (Y i : Nat)) := by rw [cell_of_block w0]; rfl
              have hpne := hpr.out i hik
              have hpl2 := pr_lt X i (X i) t
              have hdv := Lib.hid (gf_div p (Y i) (prF X i (X i) t) wr hgx hyi hpl2 hpne)
              have hfc := fc_all i t hik
              rw [hfc] at hbr hcb
              have hbdl := (hlb.out i t).1
              have hsc := Lib.hid (fun W (hg : IsGf W p) hb => p_scale p (rmul (Y i) (rinv (prF X i (X i) t))) (some ⟨gb, 0, none⟩) t cb (lbF X i t) W hg (rmul_lt _ _) (Pv.row hb hcb hcb2) hbdl (by omega))
              have hgr : BRow wr g _ _ := ur.below hBt (by omega)
              have had := Lib.hid (fun W gq cq h1 h2 h3 h4 => p_add_lg i t g c gq cq X Y W hXh.out hik (by omega) h1 hc0 hc1 h2 h3 h4)
              have hwxh := Lib.hid hwx
              have hbrh := Lib.hid hbr
              have hgrh := Lib.hid hgr
              have hgxh := Lib.hid hgx
              have hgl := hgr.lt
              clear hbr hgr hgx hwx hBt w0
              have hfch := Lib.hid hfc
              clear hfc
              rw [hfch.out]
              go_wp2_with fail
              refine hdv.out.mono ?_
              rintro e w' ⟨rfl, m7, rfl⟩
              go_wp2_with fail
              refine (hsc.out _ (hgxh.out.drewN m7) (FRow.drewN hbrh.out m7)).mono ?_
              rintro e w8 ⟨g8, c8, rfl, z1, z2, z3, z4, z5⟩
              have hgr8 : BRow w8 g _ _ := (FRow.drewN hgrh.out m7).below z5 hgl
              have hB8 := (below_drewN hwxh.out m7).trans (z5.mono hwxh.out.size)
              have had2 := Lib.hid (had.out w8 g8 c8 hgr8 z4 z2 z3)
              have hB8h := Lib.hid hB8
              clear hgr8 hB8 z4 z5 had
              go_wp2_with fail
              refine had2.out.mono ?_
              rintro e w9 ⟨g9, c9, rfl, y1, y2, y3, y4, y5⟩
              have hB9 := Lib.hid (hB8h.out.trans (y5.mono hB8h.out.size))
              have hwl := hB8h.out.size
              have y4h := Lib.hid y4
              clear y4 y5
              go_wp2_with fail
              go_roundw
              case rel => exact ⟨i + 1, g9, c9, by omega, by go_num, rfl, y2, y3, y4h.out, by omega, hB9.out⟩
              case measure => simp [intOf]; omega
        · obtain rfl : i = k := by omega
          have hBh := Lib.hid hB
          have hrh := Lib.hid hr
          clear hB hr
          go_wp2_with fail
          go_ret2
          exact ⟨g, c, rfl, hc0, hc1, hrh.out, hwg, hBh.out⟩
end Go.Proofs.Ytmdpbacjcidpgaa
