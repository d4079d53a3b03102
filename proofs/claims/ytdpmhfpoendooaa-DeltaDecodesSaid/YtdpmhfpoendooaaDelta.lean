/- The contracts of package delta's Writer. Conditions: its state lies at the pointer. -/
import Derived.Test.YtdpmhfpoendooaaDeltaPlain
import Derived.Test.YtdpmhfpoendooaaCat8
import Derived.Test.YtdpmhfpoendooaaWord4
import Derived.StillTailTactics
namespace Go.Proofs.Ytdpmhfpoendooaa
open Go.RowKit
def WrAt (w : World) (p : Nat) (s : Option Addr) (c n : Nat) (β : Nat → Nat) : Prop :=
  w.heap[p]? = some (.cells #[.slice s ((n + 7) / 8) c, .int .i64 (n : Nat)] 31 (0, 0)) ∧ OwnB w (p + 1) (.slice s ((n + 7) / 8) c) ((n + 7) / 8) (byF β)
def PutPost (W : World) (p : Nat) (s : Option Addr) (c n0 n : Nat) (β : Nat → Nat) (e : Ending) (W' : World) : Prop :=
  e = .returned (.tuple #[]) ∧ ∃ s' c', WrAt W' p s' c' n β ∧ Kp W W' p (.slice s ((n0 + 7) / 8) c) ∧ ∀ b, Value.ownBlock (.slice s' ((n + 7) / 8) c') = some b → Value.ownBlock (.slice s ((n0 + 7) / 8) c) = some b ∨ W.heap.size ≤ b
theorem and1_u64 (x : Nat) (hx : x < 18446744073709551616) : bits .and .u64 (x : Int) 1 = ((x % 2 : Nat) : Int) := by
  show IntKind.u64.wrap ((BitVec.ofInt 64 (x : Int) &&& BitVec.ofInt 64 1).toNat : Int) = _
  have e1 : (BitVec.ofInt 64 (x : Int)).toNat = x := by rw [BitVec.toNat_ofInt]; omega
  have e2 : (BitVec.ofInt 64 1).toNat = 1 := by decide
  rw [BitVec.toNat_and, e1, e2, Nat.and_one_is_mod, IntKind.wrap_u64]
  omega
theorem bit_u64 (v s : Nat) (hv : v < 18446744073709551616) : bits .and .u64 ((v : Int) / 2 ^ s) 1 = ((bitF v s : Nat) : Int) := by
  rw [cast_pow]
  exact and1_u64 _ (Nat.lt_of_le_of_lt (Nat.div_le_self _ _) hv)
theorem or_u8 (a b : Nat) (ha : a < 256) (hb : b < 256) : bits .or .u8 (a : Int) (b : Int) = ((a ||| b : Nat) : Int) := by
  show IntKind.u8.wrap ((BitVec.ofInt 8 (a : Int) ||| BitVec.ofInt 8 (b : Int)).toNat : Int) = _
  have e1 : (BitVec.ofInt 8 (a : Int)).toNat = a := by rw [BitVec.toNat_ofInt]; omega
  have e2 : (BitVec.ofInt 8 (b : Int)).toNat = b := by rw [BitVec.toNat_ofInt]; omega
  have h : a ||| b < 256 := Nat.or_lt_two_pow (n := 8) ha hb
  rw [BitVec.toNat_or, e1, e2, IntKind.wrap_u8]
  omega
theorem OwnB.open {w : World} {base n c : Nat} {s : Option Addr} {f : Nat → Nat} (h : OwnB w base (.slice s n c) n f) (h0 : 0 < n) : ∃ g, s = some ⟨g, 0, none⟩ ∧ base ≤ g ∧ BRow w g n f := by
  rcases h.2 with ⟨h1, h2⟩ | ⟨g, cap, cur, hv, q1, q2, q3, q4, q5, q6⟩
  · omega
  · cases hv
    exact ⟨g, rfl, q1, FRow.own h (fun i hi => by rw [rowB_get]; simp [hi])⟩
theorem OwnB.set {w : World} {base n c g : Nat} {f : Nat → Nat} (h : OwnB w base (.slice (some ⟨g, 0, none⟩) n c) n f) (i x : Nat) (hi : i < n) : OwnB (w.setCell ⟨g, i, none⟩ (.int .u8 (x : Nat))) base (.slice (some ⟨g, 0, none⟩) n c) n (fun j => if j = i then x else f j) := by
  have h2 := (World.ownsRow.stored h i (.int .u8 (x : Nat))).1
  rw [rowB_set] at h2
  have e : ((List.range n).map f).set i x = (List.range n).map (fun j => if j = i then x else f j) := by
    apply List.ext_getElem?
    intro j
    rw [List.getElem?_set]
    by_cases hj : j < n
    · by_cases e : i = j
      · subst e; simp [hj]
      · have e2 : ¬ j = i := fun h => e h.symm
        simp [e, hj, e2]
    · simp [hj]
      intro e; omega
  rw [e] at h2
  exact h2
theorem pow7 (q : Nat) : 2 ^ (7 - q % 8) < 256 := Nat.lt_of_le_of_lt (Nat.pow_le_pow_right (by decide) (show 7 - q % 8 ≤ 7 by omega)) (by decide)
theorem or_byte (β : Nat → Nat) (q : Nat) (hz : Zb q β) (hb : Bit β) : bits .or .u8 ((byF β (q / 8) : Nat) : Int) (2 ^ (7 - q % 8) % 256) = ((byF β (q / 8) + 2 ^ (7 - q % 8) : Nat) : Int) := by
  have h7 := pow7 q
  have e : ((2 : Int) ^ (7 - q % 8) % 256) = ((2 ^ (7 - q % 8) : Nat) : Int) := by
    have : ((2 ^ (7 - q % 8) : Nat) : Int) = (2 : Int) ^ (7 - q % 8) := by simp
    rw [← this]
    generalize (2 ^ (7 - q % 8) : Nat) = P at *
    omega
  rw [e, or_u8 _ _ (by_lt β hb _) h7, by_or β q hz]
theorem wr_bit0 {X : World} {p c2 q L : Nat} {s2 : Option Addr} {B : Nat → Nat} (hX : X.heap[p]? = some (.cells #[.slice s2 L c2, .int .i64 (q : Nat)] 31 (0, 0))) (hO : OwnB X (p + 1) (.slice s2 L c2) L (byF B)) (hL : (q + 1 + 7) / 8 = L) : WrAt (X.setCell ⟨p, 1, none⟩ (.int .i64 ((q : Int) + 1))) p s2 c2 (q + 1) B := by
  subst hL
  refine ⟨blk_set hX 1 _, OwnB.kept (row := some p) hO (only_set (only_refl _ _) 1 _) (.inr fun e => ?_)⟩
  have := (hO.lt p e).1
  omega
theorem wr_bit1 {X : World} {p c2 q L g : Nat} {B : Nat → Nat} (hX : X.heap[p]? = some (.cells #[.slice (some ⟨g, 0, none⟩) L c2, .int .i64 (q : Nat)] 31 (0, 0))) (hO : OwnB X (p + 1) (.slice (some ⟨g, 0, none⟩) L c2) L (byF B)) (hL : (q + 1 + 7) / 8 = L) (hz : Zb q B) :
    WrAt (((X.setCell ⟨g, q / 8, none⟩ (.int .u8 ((byF B (q / 8) + 2 ^ (7 - q % 8) : Nat) : Int))).setCell ⟨p, 1, none⟩ (.int .i64 ((q : Int) + 1))).drew) p (some ⟨g, 0, none⟩) c2 (q + 1) (putF B q 1) := by
  subst hL
  have hg := (hO.lt g rfl).1
  have h1 := (hO.set (q / 8) (byF B (q / 8) + 2 ^ (7 - q % 8)) (by omega)).congr (f' := byF (putF B q 1)) (fun j _ => by
    rw [by_put B q j hz]
    by_cases e : j = q / 8
    · subst e; simp
    · simp [e])
  have hp : (X.setCell ⟨g, q / 8, none⟩ (.int .u8 ((byF B (q / 8) + 2 ^ (7 - q % 8) : Nat) : Int))).heap[p]? = some (.cells #[.slice (some ⟨g, 0, none⟩) ((q + 1 + 7) / 8) c2, .int .i64 (q : Nat)] 31 (0, 0)) := (heap_setCell_other _ _ _ _ (by show p ≠ g; omega)).trans hX
  refine ⟨blk_set hp 1 _, OwnB.kept (row := some p) h1 (only_drew (only_set (only_refl _ _) 1 _)) (.inr fun e => ?_)⟩
  have e : g = p := by simpa [Value.ownBlock] using e
  omega
attribute [local irreducible] OwnB byF apF bitF putF
set_option maxHeartbeats 4000000 in
theorem d_put (p : Nat) (s : Option Addr) (c n v : Nat) (k : Int) (β : Nat → Nat) (w : World) (hw : WrAt w p s c n β) (hz : Zb n β) (hb : Bit β) (hv : v < 18446744073709551616) (hn : n ≤ 10000000) (N : Nat) (hN : clampZ k 0 64 = (N : Int)) :
    Calls Try.prog 12 #[.pointer (some ⟨p, 0, none⟩), .int .u64 (v : Nat), .int .i64 k] w (PutPost w p s c n (n + N) (apF β n N v N)) := by
  have kc := Lib.hid (w_clamp k 0 64 w)
  have hbd := clampZ_bd k 0 64 (by omega)
  rw [hN] at kc hbd
  have hwh := Lib.hid hw
  have hbh := Lib.hid hb
  have ha0 := Lib.hid (ap_zero β n N v hz)
  have han := Lib.hid (fun j => ap_next β n N v j)
  have hzb := Lib.hid (fun j => ap_zb β n N v j)
  have hN2 : N ≤ 64 := by omega
  clear hw hN hbd hz hb
  go_enter Try.func12, Try.ntmps12
  go_wp2_with fail
  refine kc.out.mono ?_
  rintro e w' ⟨rfl, rfl⟩
  go_wp2_with fail
  go_loopw [6] (fun iv wr => ∃ (j q : Nat) (s1 : Option Addr) (c1 : Nat), j ≤ N ∧ Hid (q = n + j) ∧ q ≤ 10000100 ∧ iv = .int .i64 ((N : Int) - 1 - (j : Int)) ∧ WrAt wr p s1 c1 q (apF β n N v j) ∧ Kp w wr p (.slice s ((n + 7) / 8) c) ∧ Hid (∀ b, Value.ownBlock (.slice s1 ((q + 7) / 8) c1) = some b → Value.ownBlock (.slice s ((n + 7) / 8) c) = some b ∨ w.heap.size ≤ b)) (fun iv _ => (intOf iv + 1).toNat)
  case atStart => exact ⟨0, n, s, c, by omega, hide rfl, by omega, by go_num, by rw [ha0.out]; exact hwh.out, Kp.refl _ _ _, hide (fun b hb => .inl hb)⟩
  case round =>
    obtain ⟨j, q, s1, c1, hj, hq, hq2, rfl, hwr, hkp, hob⟩ := hrel
    by_cases hjN : j < N
    · obtain ⟨hp, hown⟩ := hwr
      have c0 : wr.cell? ⟨p, 0, none⟩ = some (.slice s1 ((q + 7) / 8) c1) := by rw [cell_of_block hp]; rfl
      have c1' : wr.cell? ⟨p, 1, none⟩ = some (.int .i64 (q : Nat)) := by rw [cell_of_block hp]; rfl
      have f0 : wr.frozen? ⟨p, 0, none⟩ = false := frozen_of_row wr p 0 _ _ hp
      have i0 : 0 ≤ (N : Int) - 1 - (j : Int) := by omega
      have d0 : decide ((N : Int) - 1 - (j : Int) ≥ 0) = true := decide_eq_true i0
      have hzq := hzb.out j
      rw [← hq.out] at hzq
      have hpl := blk_lt (blk_of hp)
      by_cases h8 : q % 8 = 0
      · have d1 : (((q : Int) % 8) == 0) = true := by simp; omega
        have d2 : ((q : Int).tmod 8 == 0) = true := by rw [Int.tmod_eq_emod_of_nonneg (by omega)]; simp; omega
        have hownh := Lib.hid hown
        have hph := Lib.hid hp
        have hkph := Lib.hid hkp
        clear hown hp hkp
        have ho2 := Lib.hid (OwnB.below hownh.out ((Below.refl wr.heap.size wr).alloc (Nat.le_refl _) (.cells #[.int .u8 0] 5)))
        have hp2 := Lib.hid (fun (w' : World) (hg : (wr.alloc (.cells #[.int .u8 0] 5)).grownBy w' (Value.ownBlock (.slice s1 ((q + 7) / 8) c1))) => (hg.block p (Nat.lt_of_lt_of_le hpl (by show wr.heap.size ≤ (wr.heap.push _).size; rw [Array.size_push]; omega)) (fun e => by have := (hownh.out.lt p e.symm).1; omega)).trans (blk_alloc hph.out _))
        have hA := Lib.hid (show By (wr.alloc (.cells #[.int .u8 0] 5)) (some ⟨wr.heap.size, 0, none⟩) 1 (fun _ => 0) from fun x hx => ⟨_, _, rfl, by
          obtain rfl : x = 0 := by omega
          rw [cell_of_block (last_block0 wr _ _ rfl)]; rfl⟩)
        have hbs : p + 1 ≤ (wr.alloc (.cells #[.int .u8 0] 5)).heap.size := by show p + 1 ≤ (wr.heap.push _).size; rw [Array.size_push]; omega
        go_upto_region 5 with (at_builtin; refine wpList_catB rfl (.tmp 24) (.tmp 25) rfl _ (p + 1) ((q + 7) / 8) (byF (apF β n N v j)) rfl ho2.out (some ⟨wr.heap.size, 0, none⟩) 1 1 (fun _ => 0) rfl hA.out (fun e => by cases e) (by omega) hbs ?_; intro v' w' ho hg hb'; have hpv := ho.pv; obtain ⟨s2, c2, rfl, _⟩ := hpv; have p2 := hp2.out w' hg; have f2 : w'.frozen? ⟨p, 0, none⟩ = false := frozen_of_row w' p 0 _ _ p2; have e2 : w'.cell? ⟨p, 0, none⟩ = some (.slice s1 ((q + 7) / 8) c1) := (cell_of_block p2).trans rfl; have p2h := Lib.hid p2; clear p2)
        have hX : (w'.setCell ⟨p, 0, none⟩ (.slice s2 ((q + 7) / 8 + 1) c2)).heap[p]? = some (.cells #[.slice s2 ((q + 7) / 8 + 1) c2, .int .i64 (q : Nat)] 31 (0, 0)) := blk_set p2h.out 0 _
        have hO : OwnB (w'.setCell ⟨p, 0, none⟩ (.slice s2 ((q + 7) / 8 + 1) c2)) (p + 1) (.slice s2 ((q + 7) / 8 + 1) c2) ((q + 7) / 8 + 1) (byF (apF β n N v j)) :=
          (ho.congr (fun x hx => by
            unfold catF
            by_cases e : x < (q + 7) / 8
            · rw [if_pos e]
            · rw [if_neg e, by_zero _ q x hzq (by omega)])).kept (row := some p) (only_set (only_refl _ _) 0 _) (by
              right
              intro e
              have := (ho.lt p e).1
              omega)
        have hK : Kp w (w'.setCell ⟨p, 0, none⟩ (.slice s2 ((q + 7) / 8 + 1) c2)) p (.slice s ((n + 7) / 8) c) := ((hkph.out.below ((Below.refl wr.heap.size wr).alloc (Nat.le_refl _) (.cells #[.int .u8 0] 5))).grown hg hob.out).set p 0 _ (.inl rfl)
        have hW : ∀ b, Value.ownBlock (.slice s2 ((q + 7) / 8 + 1) c2) = some b → Value.ownBlock (.slice s ((n + 7) / 8) c) = some b ∨ w.heap.size ≤ b := by
          intro b hb2
          rcases hb' b hb2 with h | h
          · exact hob.out b h
          · have h1 := hkph.out.size
            have h2 : wr.heap.size ≤ (wr.alloc (.cells #[.int .u8 0] 5)).heap.size := by show wr.heap.size ≤ (wr.heap.push _).size; rw [Array.size_push]; omega
            exact .inr (by omega)
        have e8 : (q + 7) / 8 + 1 = (q + 1 + 7) / 8 := by omega
        rw [e8] at hX hO hK hW
        rw [e8]
        generalize World.setCell w' _ _ = X at *
        have hL : q / 8 < (q + 1 + 7) / 8 := by omega
        generalize hLx : (q + 1 + 7) / 8 = L at *
        have hLe := Lib.hid hLx
        clear hLx
        have h8h := Lib.hid h8
        clear h8 d1 d2
        have x0 : X.cell? ⟨p, 0, none⟩ = some (.slice s2 L c2) := (cell_of_block hX).trans rfl
        have x1 : X.cell? ⟨p, 1, none⟩ = some (.int .i64 (q : Nat)) := (cell_of_block hX).trans rfl
        have fx1 : X.frozen? ⟨p, 1, none⟩ = false := frozen_of_row X p 1 _ _ hX
        have hbit := bit_u64 v (N - 1 - j) hv
        have hb01 := bit_le v (N - 1 - j)
        have han2 := Lib.hid (han.out j)
        have hwh1 := Lib.hid hW
        obtain ⟨g2, rfl, hg2, hrow⟩ := hO.open (by omega)
        have xb := FRow.cell hrow (q / 8) hL
        have fb := FRow.fr hrow (q / 8)
        have q1 : (q : Int).tdiv 8 = (q : Int) / 8 := Int.tdiv_eq_ediv_of_nonneg (by omega)
        have q2 : IntKind.i64.wrap ((q : Int) / 8) = (q : Int) / 8 := IntWalk.i64_in _ (by omega)
        have q3 : (q : Int) / 8 < (L : Int) := by omega
        have q4 : 0 ≤ (q : Int) / 8 := by omega
        have q5 : ((q : Int) / 8).toNat = q / 8 := by omega
        have q6 : (q : Int).tmod 8 = (q : Int) % 8 := Int.tmod_eq_emod_of_nonneg (by omega)
        have q7 : IntKind.i64.wrap ((q : Int) % 8) = (q : Int) % 8 := IntWalk.i64_in _ (by omega)
        have q8 : IntKind.i64.wrap (7 - (q : Int) % 8) = 7 - (q : Int) % 8 := IntWalk.i64_in _ (by omega)
        have q9 : (7 - (q : Int) % 8).toNat = 7 - q % 8 := by omega
        have hor := or_byte (apF β n N v j) q hzq (ap_bit β n N v j hbh.out)
        have hz0 := Lib.hid hzq
        have hXh := Lib.hid hX
        have hOh := Lib.hid hO
        have hKh := Lib.hid hK
        have hpg := (hOh.out.lt g2 rfl).1
        have hgK : g2 = p ∨ Value.ownBlock (.slice s ((n + 7) / 8) c) = some g2 ∨ w.heap.size ≤ g2 := .inr (hwh1.out g2 rfl)
        clear hX hO hK hW hrow hzq hob
        generalize bitF v (N - 1 - j) = x at *
        rcases (show x = 0 ∨ x = 1 by omega) with rfl | rfl
        · rw [← hq.out, put_none _ _ hz0.out] at han2
          go_wp2_with fail
          go_roundw
          case rel => exact ⟨j + 1, q + 1, _, c2, by omega, hide (by have := hq.out; omega), by have := hq.out; omega, by go_num, by rw [han2.out]; exact wr_bit0 hXh.out hOh.out hLe.out, hKh.out.set p 1 _ (.inl rfl), hide (by rw [hLe.out]; exact hwh1.out)⟩
          case measure => first | (simp [intOf]; done) | (simp [intOf]; omega)
        · rw [← hq.out] at han2
          go_upto_region 6 with (fail)
          go_still_tail 20, (by kernel_rfl)
          go_wp2_with fail
          go_roundw
          case rel => exact ⟨j + 1, q + 1, _, c2, by omega, hide (by have := hq.out; omega), by have := hq.out; omega, by go_num, by rw [han2.out]; exact wr_bit1 hXh.out hOh.out hLe.out hz0.out, (((hKh.out.set g2 (q / 8) _ hgK).set p 1 _ (.inl rfl)).below (below_drewN (Below.refl _ _) 1)), hide (by rw [hLe.out]; exact hwh1.out)⟩
          case measure => first | (simp [intOf]; done) | (simp [intOf]; omega)
      · have d1 : (((q : Int) % 8) == 0) = false := by simp; omega
        have d2 : ((q : Int).tmod 8 == 0) = false := by rw [Int.tmod_eq_emod_of_nonneg (by omega)]; simp; omega
        have e8 : (q + 7) / 8 = (q + 1 + 7) / 8 := by omega
        have hW := hob.out
        rw [e8] at hp hown hW c0
        obtain ⟨s2, hs2⟩ : ∃ s2, s2 = s1 := ⟨_, rfl⟩
        obtain ⟨c2, hc2⟩ : ∃ c2, c2 = c1 := ⟨_, rfl⟩
        subst hs2 hc2
        have hX := hp
        have hO := hown
        have hK := hkp
        clear hp hown hkp e8
        go_upto_region 5 with (fail)
        clear c0 c1' f0
        obtain ⟨X, hXe⟩ : ∃ X : World, X = wr := ⟨_, rfl⟩
        subst hXe
        have hL : q / 8 < (q + 1 + 7) / 8 := by omega
        generalize hLx : (q + 1 + 7) / 8 = L at *
        have hLe := Lib.hid hLx
        clear hLx
        have h8h := Lib.hid h8
        clear h8 d1 d2
        have x0 : X.cell? ⟨p, 0, none⟩ = some (.slice s2 L c2) := (cell_of_block hX).trans rfl
        have x1 : X.cell? ⟨p, 1, none⟩ = some (.int .i64 (q : Nat)) := (cell_of_block hX).trans rfl
        have fx1 : X.frozen? ⟨p, 1, none⟩ = false := frozen_of_row X p 1 _ _ hX
        have hbit := bit_u64 v (N - 1 - j) hv
        have hb01 := bit_le v (N - 1 - j)
        have han2 := Lib.hid (han.out j)
        have hwh1 := Lib.hid hW
        obtain ⟨g2, rfl, hg2, hrow⟩ := hO.open (by omega)
        have xb := FRow.cell hrow (q / 8) hL
        have fb := FRow.fr hrow (q / 8)
        have q1 : (q : Int).tdiv 8 = (q : Int) / 8 := Int.tdiv_eq_ediv_of_nonneg (by omega)
        have q2 : IntKind.i64.wrap ((q : Int) / 8) = (q : Int) / 8 := IntWalk.i64_in _ (by omega)
        have q3 : (q : Int) / 8 < (L : Int) := by omega
        have q4 : 0 ≤ (q : Int) / 8 := by omega
        have q5 : ((q : Int) / 8).toNat = q / 8 := by omega
        have q6 : (q : Int).tmod 8 = (q : Int) % 8 := Int.tmod_eq_emod_of_nonneg (by omega)
        have q7 : IntKind.i64.wrap ((q : Int) % 8) = (q : Int) % 8 := IntWalk.i64_in _ (by omega)
        have q8 : IntKind.i64.wrap (7 - (q : Int) % 8) = 7 - (q : Int) % 8 := IntWalk.i64_in _ (by omega)
        have q9 : (7 - (q : Int) % 8).toNat = 7 - q % 8 := by omega
        have hor := or_byte (apF β n N v j) q hzq (ap_bit β n N v j hbh.out)
        have hz0 := Lib.hid hzq
        have hXh := Lib.hid hX
        have hOh := Lib.hid hO
        have hKh := Lib.hid hK
        have hpg := (hOh.out.lt g2 rfl).1
        have hgK : g2 = p ∨ Value.ownBlock (.slice s ((n + 7) / 8) c) = some g2 ∨ w.heap.size ≤ g2 := .inr (hwh1.out g2 rfl)
        clear hX hO hK hW hrow hzq hob
        generalize bitF v (N - 1 - j) = x at *
        rcases (show x = 0 ∨ x = 1 by omega) with rfl | rfl
        · rw [← hq.out, put_none _ _ hz0.out] at han2
          go_wp2_with fail
          go_roundw
          case rel => exact ⟨j + 1, q + 1, _, c2, by omega, hide (by have := hq.out; omega), by have := hq.out; omega, by go_num, by rw [han2.out]; exact wr_bit0 hXh.out hOh.out hLe.out, hKh.out.set p 1 _ (.inl rfl), hide (by rw [hLe.out]; exact hwh1.out)⟩
          case measure => first | (simp [intOf]; done) | (simp [intOf]; omega)
        · rw [← hq.out] at han2
          go_upto_region 6 with (fail)
          go_still_tail 20, (by kernel_rfl)
          go_wp2_with fail
          go_roundw
          case rel => exact ⟨j + 1, q + 1, _, c2, by omega, hide (by have := hq.out; omega), by have := hq.out; omega, by go_num, by rw [han2.out]; exact wr_bit1 hXh.out hOh.out hLe.out hz0.out, (((hKh.out.set g2 (q / 8) _ hgK).set p 1 _ (.inl rfl)).below (below_drewN (Below.refl _ _) 1)), hide (by rw [hLe.out]; exact hwh1.out)⟩
          case measure => first | (simp [intOf]; done) | (simp [intOf]; omega)
    · obtain rfl : j = N := by omega
      have d0 : decide ((j : Int) - 1 - (j : Int) ≥ 0) = false := decide_eq_false (by omega)
      have hqe := hq.out
      subst hqe
      have hwrh := Lib.hid hwr
      have hkph := Lib.hid hkp
      clear hwr hkp
      go_wp2_with fail
      go_end0
      exact ⟨rfl, s1, c1, hwrh.out, hkph.out, hob.out⟩
end Go.Proofs.Ytdpmhfpoendooaa
