/- The contracts of package word's Log, of package delta's Gamma, Bytes, Encode, Size. Conditions: the state lies at the pointer; the slice reads as the numbers named. -/
import Derived.Test.YtdpmhfpoendooaaDelta2Plain
import Derived.Test.YtdpmhfpoendooaaDelta
namespace Go.Proofs.Ytdpmhfpoendooaa
open Go.RowKit
theorem half_pow (v k : Nat) : ((v / 2 ^ k : Nat) : Int) / 2 = ((v / 2 ^ (k + 1) : Nat) : Int) := by
  rw [Nat.pow_succ, ← Nat.div_div_eq_div_mul]; omega
set_option maxHeartbeats 1000000 in
theorem d_log (v : Nat) (w : World) (hv : v < 18446744073709551616) :
    Calls Try.prog 32 #[.int .u64 (v : Nat)] w fun e w' => e = .returned (.int .i64 (nbF v : Nat)) ∧ w = w' := by
  have hu := Lib.hid (fun k h0 h1 => nb_uniq v k h0 h1)
  have hh := Lib.hid (fun k => half_pow v k)
  have hl : Hid (∀ k, v / 2 ^ k ≠ 0 → k < 64) := hide (fun k hk => by
    by_cases e : k < 64
    · exact e
    · exfalso
      have := Nat.pow_le_pow_right (show 0 < 2 by decide) (show 64 ≤ k by omega)
      exact hk (Nat.div_eq_of_lt (by omega)))
  have hle := Lib.hid (fun k => Nat.lt_of_le_of_lt (Nat.div_le_self v (2 ^ k)) hv)
  go_enter Try.func32, Try.ntmps32
  go_wp2_with fail
  go_loop [0, 3] (fun x n => ∃ k : Nat, k ≤ 64 ∧ n = .int .i64 k ∧ x = .int .u64 ((v / 2 ^ k : Nat) : Int) ∧ Hid (∀ j, j < k → v / 2 ^ j ≠ 0)) (fun x _ => (intOf x).toNat)
  case atStart => exact ⟨0, by omega, rfl, by simp, hide (fun j hj => absurd hj (by omega))⟩
  case round =>
    obtain ⟨k, hk, rfl, rfl, hpre⟩ := hrel
    have hx := hle.out k
    have h2 := Lib.hid (hh.out k)
    have hlk := Lib.hid (hl.out k)
    have huk := Lib.hid (hu.out k)
    have hpre2 := Lib.hid (fun (hne : v / 2 ^ k ≠ 0) (j : Nat) (hj : j < k + 1) => (by
      by_cases e : j = k
      · subst e; exact hne
      · exact hpre.out j (by omega) : v / 2 ^ j ≠ 0))
    generalize hX : v / 2 ^ k = X at *
    by_cases h0 : X = 0
    · have e1 := Lib.hid (huk.out h0 hpre.out)
      clear hX hu huk hpre2 hlk
      subst h0
      go_wp2_with fail
      go_ret
      exact ⟨ret_int (by rw [← e1.out]), rfl⟩
    · have e1 := hlk.out h0
      have e2 := Lib.hid (hpre2.out h0)
      have i1 : 0 < (X : Int) := by omega
      clear hX hu huk hpre2 hlk
      go_wp2_with fail
      go_round
      case rel => exact ⟨k + 1, by omega, by go_num, by rw [← h2.out], e2⟩
      case measure => simp [intOf]; omega
attribute [local irreducible] OwnB byF apF bitF putF ctF bsF gmF gmN nbF
theorem PutPost.trans {W W1 W2 : World} {p c n n1 n2 : Nat} {s : Option Addr} {β1 β2 : Nat → Nat} {e1 e2 : Ending}
    (h : PutPost W p s c n n1 β1 e1 W1) (k : ∀ s' c', WrAt W1 p s' c' n1 β1 → PutPost W1 p s' c' n1 n2 β2 e2 W2) : PutPost W p s c n n2 β2 e2 W2 := by
  obtain ⟨_, s1, c1, h1, h2, h3⟩ := h
  obtain ⟨he, s2, c2, k1, k2, k3⟩ := k s1 c1 h1
  refine ⟨he, s2, c2, k1, h2.trans k2 h3, fun b hb => ?_⟩
  rcases k3 b hb with h4 | h4
  · exact h3 b h4
  · exact .inr (Nat.le_trans h2.size h4)
theorem clamp_nat (N : Nat) (h : N ≤ 64) : clampZ ((N : Nat) : Int) 0 64 = (N : Int) := by unfold clampZ; omega
theorem d_put2 (p : Nat) (s : Option Addr) (c n v N : Nat) (β : Nat → Nat) (w : World) (hw : WrAt w p s c n β) (hz : Zb n β) (hb : Bit β) (hv : v < 18446744073709551616) (hn : n ≤ 10000000) (hN : N ≤ 64) :
    Calls Try.prog 12 #[.pointer (some ⟨p, 0, none⟩), .int .u64 (v : Nat), .int .i64 (N : Nat)] w (PutPost w p s c n (n + N) (ctF β n (bsF v N) N)) := by
  rw [← ap_ct]
  exact d_put p s c n v N β w hw hz hb hv hn N (clamp_nat N hN)
set_option maxHeartbeats 1000000 in
theorem d_gamma (p : Nat) (s : Option Addr) (c n v : Nat) (β : Nat → Nat) (w : World) (hw : WrAt w p s c n β) (hz : Zb n β) (hb : Bit β) (hv : v < 18446744073709551616) (h0 : v ≠ 0) (hn : n ≤ 1000000) :
    Calls Try.prog 10 #[.pointer (some ⟨p, 0, none⟩), .int .u64 (v : Nat)] w (PutPost w p s c n (n + gmN v) (ctF β n (gmF v) (gmN v))) := by
  have hnb := nb_max v 64 (by omega)
  have hn0 := (nb_le v h0).1
  have hgm := Lib.hid (gm_ct β n v h0)
  have hgn : Hid (n + (nbF v - 1) + nbF v = n + gmN v) := hide (by unfold gmN; omega)
  have kl := Lib.hid (d_log v w hv)
  have k1 := Lib.hid (d_put2 p s c n 0 (nbF v - 1) β w hw hz hb (by omega) (by omega) (by omega))
  have hz1 := Lib.hid (ct_zb β (bsF 0 (nbF v - 1)) n (nbF v - 1))
  have hb1 := Lib.hid (ct_bit n (nbF v - 1) hb (fun j _ => bs_bit 0 (nbF v - 1) j))
  have k2 := Lib.hid (fun W s' c' (h : WrAt W p s' c' (n + (nbF v - 1)) (ctF β n (bsF 0 (nbF v - 1)) (nbF v - 1))) => d_put2 p s' c' (n + (nbF v - 1)) v (nbF v) _ W h hz1.out hb1.out hv (by omega) hnb)
  rw [hgm.out, hgn.out] at k2
  have d1 : (((v : Nat) : Int) == 0) = false := beq_nat1 v h0
  obtain ⟨M, hM⟩ : ∃ M, nbF v = M + 1 := ⟨nbF v - 1, by omega⟩
  rw [hM] at kl k1 k2
  rw [Nat.add_sub_cancel] at k1 k2
  have eM : ((M + 1 : Nat) : Int) = (M : Int) + 1 := by omega
  have e0 : ((0 : Nat) : Int) = 0 := rfl
  rw [eM] at kl k2
  rw [e0] at k1
  have hM2 : M ≤ 63 := by omega
  clear hw hz hb h0 hnb hn0 hgm hgn hM hz1 hb1 eM e0
  go_enter Try.func10, Try.ntmps10
  go_wp2_with fail
  refine kl.out.mono ?_
  rintro e w' ⟨rfl, rfl⟩
  go_wp2_with fail
  refine k1.out.mono ?_
  intro e w1 h1
  have h1h := Lib.hid h1
  obtain ⟨rfl, s1, c1, q1, q2, q3⟩ := h1
  have k3 := Lib.hid (k2.out w1 s1 c1 q1)
  have q2h := Lib.hid q2
  have q3h := Lib.hid q3
  clear q1 q2 q3
  go_wp2_with fail
  refine k3.out.mono ?_
  intro e w2 h2
  obtain ⟨rfl, s2, c2, r1, r2, r3⟩ := h2
  have r1h := Lib.hid r1
  have r2h := Lib.hid (q2h.out.trans r2 q3h.out)
  have r3h : Hid (∀ b, Value.ownBlock (.slice s2 ((n + gmN v + 7) / 8) c2) = some b → Value.ownBlock (.slice s ((n + 7) / 8) c) = some b ∨ w.heap.size ≤ b) := hide (fun b hb => by
    rcases r3 b hb with h4 | h4
    · exact q3h.out b h4
    · exact .inr (Nat.le_trans q2h.out.size h4))
  clear r1 r2 r3
  go_wp2_with fail
  go_end0
  exact ⟨rfl, s2, c2, r1h.out, r2h.out, r3h.out⟩
theorem own_nil_below {W : World} {p : Nat} {v : Value} (hv : ∀ b, v.ownBlock = some b → p + 1 ≤ b) : ∀ b, v.ownBlock = some b → p ≤ b := fun b hb => by have := hv b hb; omega
set_option maxHeartbeats 1000000 in
theorem d_bytes (p : Nat) (s : Option Addr) (c n : Nat) (β : Nat → Nat) (w : World) (hw : WrAt w p s c n β) (hn : n ≤ 1000000) :
    Calls Try.prog 16 #[.pointer (some ⟨p, 0, none⟩)] w (RowPost w ((n + 7) / 8) (byF β)) := by
  obtain ⟨hp, hown⟩ := hw
  obtain ⟨s', c', hv, hpv⟩ := hown.pv
  cases hv
  have c0 : w.cell? ⟨p, 0, none⟩ = some (.slice s ((n + 7) / 8) c) := (cell_of_block hp).trans rfl
  have hl := blk_lt (blk_of hp)
  have c0' : (w.alloc (.cells #[] 5)).cell? ⟨p, 0, none⟩ = some (.slice s ((n + 7) / 8) c) := (World.cell?_of_block (w := w) (Below.heap_alloc w _ p hl)).trans c0
  have hpvh := Lib.hid hpv
  clear hp hown hpv hl
  have hln : (n + 7) / 8 ≤ 100000000 := by omega
  generalize (n + 7) / 8 = L at *
  go_enter Try.func16, Try.ntmps16
  go_wp2_with (at_builtin; refine wpList_appB rfl (.tmp 3) (.tmp 7) rfl w rfl rfl s c L (byF β) rfl hpvh.out.rd hpvh.out.nil (by omega) ?_; intro g c2 w4 h1 h2 h3 h4 h5)
  go_ret
  exact ⟨g, c2, rfl, h1, h2, h3, h4, h5⟩
/-- a slice of inputs -/
def InAt (w : World) (s : Option Addr) (n : Nat) (L : Nat → Nat) : Prop := ∀ i, i < n → ∃ b off, s = some ⟨b, off, none⟩ ∧ w.cell? ⟨b, off + i, none⟩ = some (.int .u16 (L i : Nat))
theorem InAt.below {w w' : World} {s : Option Addr} {n : Nat} {f : Nat → Nat} (h : InAt w s n f) (hb : Below w.heap.size w w') : InAt w' s n f := by
  intro i hi
  obtain ⟨b, off, hs, hc⟩ := h i hi
  exact ⟨b, off, hs, by rw [hb.cell (p := ⟨b, off + i, none⟩) (cell_block_lt hc)]; exact hc⟩
theorem u16_xor (a b : Nat) (ha : a < 65536) (hb : b < 65536) : bits .xor .u16 (a : Int) (b : Int) = ((a ^^^ b : Nat) : Int) := by
  show IntKind.u16.wrap ((BitVec.ofInt 16 (a : Int) ^^^ BitVec.ofInt 16 (b : Int)).toNat : Int) = _
  have e1 : (BitVec.ofInt 16 (a : Int)).toNat = a := by rw [BitVec.toNat_ofInt]; omega
  have e2 : (BitVec.ofInt 16 (b : Int)).toNat = b := by rw [BitVec.toNat_ofInt]; omega
  have h : a ^^^ b < 65536 := Nat.xor_lt_two_pow (n := 16) ha hb
  rw [BitVec.toNat_xor, e1, e2, IntKind.wrap_u16]
  omega
theorem dl_lt (L : Nat → Nat) (hL : ∀ i, L i < 65536) (i : Nat) : dlF L i < 65536 := by
  unfold dlF
  refine Nat.xor_lt_two_pow (n := 16) (hL i) ?_
  split
  · decide
  · exact hL _
def lastF (L : Nat → Nat) (i : Nat) : Nat := if i = 0 then 0 else L (i - 1)
theorem last_lt (L : Nat → Nat) (hL : ∀ i, L i < 65536) (i : Nat) : lastF L i < 65536 := by unfold lastF; split; decide; exact hL _
theorem last_next (L : Nat → Nat) (i : Nat) : lastF L (i + 1) = L i := by unfold lastF; rw [if_neg (by omega), Nat.add_sub_cancel]
theorem dl_last (L : Nat → Nat) (i : Nat) : L i ^^^ lastF L i = dlF L i := rfl
theorem chN_0 : chN 0 = 1 := rfl
theorem chN_6 (x : Nat) (h0 : x ≠ 0) (h : x < 64) : chN x = 8 := by unfold chN; rw [if_neg h0, if_pos h]
theorem chN_16 (x : Nat) (h : ¬ x < 64) : chN x = 18 := by unfold chN; rw [if_neg (by omega), if_neg h]
attribute [local irreducible] chF chN enN enB dlF lastF
def EncPost (W : World) (N : Nat) (β : Nat → Nat) (e : Ending) (W' : World) : Prop := ∃ g c, e = .returned (.tuple #[.slice (some ⟨g, 0, none⟩) N c, .int .i64 0]) ∧ W.heap.size ≤ g ∧ N ≤ c ∧ c ≤ maxLen ∧ BRow W' g N β ∧ Below W.heap.size W W'
set_option maxHeartbeats 1000000 in
theorem d_encode_long (s : Option Addr) (n cap : Nat) (w : World) (hn : 4096 < n) (hn2 : n ≤ 9223372036854775807) :
    Calls Try.prog 27 #[.slice s n cap] w fun e w' => e = .returned (.tuple #[.slice none 0 0, .int .i64 2]) ∧ w = w' := by
  have d1 : decide (4096 < (n : Int)) = true := decide_eq_true (by omega)
  go_enter Try.func27, Try.ntmps27
  go_wp2_with fail
  go_ret2
  exact ⟨rfl, rfl⟩
theorem wr_new (w : World) : WrAt (w.alloc (.cells #[.slice none 0 0, .int .i64 0] 31)) w.heap.size none 0 0 (fun _ => 0) :=
  ⟨last_block0 w _ _ rfl, OwnB.nil _ _ _⟩
theorem enN_zero (L : Nat → Nat) (n : Nat) : enN L n 0 = gmN (n + 1) := by rw [enN]
theorem enB_zero (L : Nat → Nat) (n : Nat) : enB L n 0 = ctF (fun _ => 0) 0 (gmF (n + 1)) (gmN (n + 1)) := by rw [enB]
theorem enN_next (L : Nat → Nat) (n k : Nat) : enN L n (k + 1) = enN L n k + chN (dlF L k) := by rw [enN]
theorem enB_next (L : Nat → Nat) (n k : Nat) : enB L n (k + 1) = ctF (enB L n k) (enN L n k) (chF (dlF L k)) (chN (dlF L k)) := by rw [enB]
set_option maxHeartbeats 4000000 in
theorem d_encode (s : Option Addr) (n cap : Nat) (L : Nat → Nat) (w : World) (hs : InAt w s n L) (hL : ∀ i, L i < 65536) (hn : n ≤ 4096) :
    Calls Try.prog 27 #[.slice s n cap] w (EncPost w ((enN L n n + 7) / 8) (byF (enB L n n))) := by
  have hsh := Lib.hid hs
  have hLh := Lib.hid hL
  have hd := Lib.hid (fun k => dl_lt L hL k)
  have hll := Lib.hid (fun k => last_lt L hL k)
  have hdl := Lib.hid (fun k => dl_last L k)
  have hle := Lib.hid (fun k => en_le L n k hn)
  have hzb := Lib.hid (fun k => en_zb L n k)
  have hbb := Lib.hid (fun k => en_bit L n k)
  have hnx := Lib.hid (fun k => last_next L k)
  have kg := Lib.hid (d_gamma w.heap.size none 0 0 (n + 1) (fun _ => 0) _ (wr_new w) (fun _ _ => rfl) (fun _ => (by decide : 0 ≤ 1)) (by omega) (by omega) (by omega))
  have hB0 := Lib.hid ((Below.refl w.heap.size w).alloc (Nat.le_refl _) (.cells #[.slice none 0 0, .int .i64 0] 31))
  rw [Nat.zero_add, ← enB_zero L n, ← enN_zero L n] at kg
  have eN : ((n + 1 : Nat) : Int) = (n : Int) + 1 := by omega
  rw [eN] at kg
  have hsz : w.heap.size ≤ (w.alloc (.cells #[.slice none 0 0, .int .i64 0] 31)).heap.size := hB0.out.size
  clear hs hL eN
  go_enter Try.func27, Try.ntmps27
  go_wp2_with fail
  refine kg.out.mono ?_
  rintro e w1 ⟨rfl, s1, c1, h1, h2, h3⟩
  have hB1 := Lib.hid (h2.to_below hB0.out hsz (Nat.le_refl _) (fun b hb => by simp [Value.ownBlock] at hb))
  have h1h := Lib.hid h1
  clear h1 h2 h3 kg hB0
  go_wp2_with fail
  go_loopw [5, 22] (fun la v wr => ∃ (k : Nat) (s2 : Option Addr) (c2 : Nat), k ≤ n ∧ v = .int .i64 k ∧ la = .int .u16 (lastF L k : Nat) ∧ WrAt wr w.heap.size s2 c2 (enN L n k) (enB L n k) ∧ Below w.heap.size w wr) (fun _ v _ => n - (intOf v).toNat)
  case atStart => exact ⟨0, s1, c1, Nat.zero_le _, rfl, by unfold lastF; rfl, h1h.out, hB1.out⟩
  case round =>
    obtain ⟨k, s2, c2, hk, rfl, rfl, hwr, hB⟩ := hrel
    clear h1h hB1
    by_cases hlt : k < n
    · obtain ⟨b, off, rfl, q0⟩ := hsh.out k hlt
      have c0 := (hB.cell (p := ⟨b, off + k, none⟩) (cell_block_lt q0)).trans q0
      have i1 : (k : Int) < (n : Int) := by omega
      have hx := u16_xor (L k) (lastF L k) (hLh.out k) (hll.out k)
      rw [hdl.out k] at hx
      have hdk := hd.out k
      have hlk := hLh.out k
      have hwrh := Lib.hid hwr
      have hBh := Lib.hid hB
      have hown := Lib.hid (fun b (hb : Value.ownBlock (.slice s2 ((enN L n k + 7) / 8) c2) = some b) => (by have := (hwr.2.lt b hb).1; omega : w.heap.size ≤ b))
      have hle2 := hle.out k
      have e1 := Lib.hid (enN_next L n k)
      have e2 := Lib.hid (enB_next L n k)
      have hzk := hzb.out k
      have hbk := hbb.out k
      clear q0 hwr hB
      rcases (show dlF L k = 0 ∨ (dlF L k ≠ 0 ∧ dlF L k < 64) ∨ ¬ dlF L k < 64 by omega) with h0 | ⟨h0, h64⟩ | h64
      · have kp := Lib.hid (d_put2 w.heap.size s2 c2 (enN L n k) 0 1 (enB L n k) wr hwrh.out hzk hbk (by omega) (by omega) (by omega))
        rw [ch_zero, ← h0, ← e2.out, show enN L n k + 1 = enN L n (k + 1) by rw [e1.out, h0, chN_0]] at kp
        rw [show ((1 : Nat) : Int) = 1 from rfl, h0, show ((0 : Nat) : Int) = 0 from rfl] at kp
        have t1 : ((((dlF L k : Nat)) : Int) == 0) = true := beq_nat0 _ h0
        clear hzk hbk e1 e2 h0
        generalize dlF L k = x at *
        go_wp2_with fail
        refine kp.out.mono ?_
        rintro e w5 ⟨rfl, s5, c5, p1, p2, p3⟩
        have p1h := Lib.hid p1
        have hB5 := Lib.hid (p2.to_below hBh.out hBh.out.size (Nat.le_refl _) hown.out)
        clear p1 p2 p3
        go_wp2_with fail
        go_roundw
        case rel => exact ⟨k + 1, s5, c5, by omega, by go_num, by rw [hnx.out k], p1h.out, hB5.out⟩
        case measure => simp [intOf]; omega
      · have kp := Lib.hid (d_put2 w.heap.size s2 c2 (enN L n k) 2 2 (enB L n k) wr hwrh.out hzk hbk (by omega) (by omega) (by omega))
        have hz2 := Lib.hid (ct_zb (enB L n k) (bsF 2 2) (enN L n k) 2)
        have hb2 := Lib.hid (ct_bit (enN L n k) 2 hbk (fun j _ => bs_bit 2 2 j))
        have kp2 := Lib.hid (fun W s' c' (h : WrAt W w.heap.size s' c' (enN L n k + 2) (ctF (enB L n k) (enN L n k) (bsF 2 2) 2)) => d_put2 w.heap.size s' c' (enN L n k + 2) (dlF L k) 6 _ W h hz2.out hb2.out (by omega) (by omega) (by omega))
        rw [ch_low _ _ _ h0 h64, ← e2.out, show enN L n k + 2 + 6 = enN L n (k + 1) by rw [e1.out, chN_6 _ h0 h64]] at kp2
        rw [show ((2 : Nat) : Int) = 2 from rfl] at kp
        rw [show ((6 : Nat) : Int) = 6 from rfl] at kp2
        have t1 := beq_nat1 _ h0
        have t2 : decide (((dlF L k : Nat) : Int) < 64) = true := decide_eq_true (by omega)
        clear hz2 hb2 hzk hbk e1 e2 h0 h64
        generalize dlF L k = x at *
        go_wp2_with fail
        refine kp.out.mono ?_
        rintro e w5 ⟨rfl, s5, c5, p1, p2, p3⟩
        have p1h := Lib.hid p1
        have hB5 := Lib.hid (p2.to_below hBh.out hBh.out.size (Nat.le_refl _) hown.out)
        have own5 := Lib.hid (fun b (hb : Value.ownBlock (.slice s5 ((enN L n k + 2 + 7) / 8) c5) = some b) => (by have := (p1.2.lt b hb).1; omega : w.heap.size ≤ b))
        have kp3 := Lib.hid (kp2.out w5 s5 c5 p1)
        clear p1 p2 p3 kp2
        go_wp2_with fail
        refine kp3.out.mono ?_
        rintro e w6 ⟨rfl, s6, c6, p4, p5, p6⟩
        have p4h := Lib.hid p4
        have hB6 := Lib.hid (p5.to_below hB5.out hB5.out.size (Nat.le_refl _) own5.out)
        clear p4 p5 p6
        go_wp2_with fail
        go_roundw
        case rel => exact ⟨k + 1, s6, c6, by omega, by go_num, by rw [hnx.out k], p4h.out, hB6.out⟩
        case measure => simp [intOf]; omega
      · have kp := Lib.hid (d_put2 w.heap.size s2 c2 (enN L n k) 3 2 (enB L n k) wr hwrh.out hzk hbk (by omega) (by omega) (by omega))
        have hz2 := Lib.hid (ct_zb (enB L n k) (bsF 3 2) (enN L n k) 2)
        have hb2 := Lib.hid (ct_bit (enN L n k) 2 hbk (fun j _ => bs_bit 3 2 j))
        have kp2 := Lib.hid (fun W s' c' (h : WrAt W w.heap.size s' c' (enN L n k + 2) (ctF (enB L n k) (enN L n k) (bsF 3 2) 2)) => d_put2 w.heap.size s' c' (enN L n k + 2) (dlF L k) 16 _ W h hz2.out hb2.out (by omega) (by omega) (by omega))
        rw [ch_high _ _ _ h64, ← e2.out, show enN L n k + 2 + 16 = enN L n (k + 1) by rw [e1.out, chN_16 _ h64]] at kp2
        rw [show ((3 : Nat) : Int) = 3 from rfl, show ((2 : Nat) : Int) = 2 from rfl] at kp
        rw [show ((16 : Nat) : Int) = 16 from rfl] at kp2
        have t1 := beq_nat1 (dlF L k) (by omega)
        have t2 : decide (((dlF L k : Nat) : Int) < 64) = false := decide_eq_false (by omega)
        clear hz2 hb2 hzk hbk e1 e2 h64
        generalize dlF L k = x at *
        go_wp2_with fail
        refine kp.out.mono ?_
        rintro e w5 ⟨rfl, s5, c5, p1, p2, p3⟩
        have p1h := Lib.hid p1
        have hB5 := Lib.hid (p2.to_below hBh.out hBh.out.size (Nat.le_refl _) hown.out)
        have own5 := Lib.hid (fun b (hb : Value.ownBlock (.slice s5 ((enN L n k + 2 + 7) / 8) c5) = some b) => (by have := (p1.2.lt b hb).1; omega : w.heap.size ≤ b))
        have kp3 := Lib.hid (kp2.out w5 s5 c5 p1)
        clear p1 p2 p3 kp2
        go_wp2_with fail
        refine kp3.out.mono ?_
        rintro e w6 ⟨rfl, s6, c6, p4, p5, p6⟩
        have p4h := Lib.hid p4
        have hB6 := Lib.hid (p5.to_below hB5.out hB5.out.size (Nat.le_refl _) own5.out)
        clear p4 p5 p6
        go_wp2_with fail
        go_roundw
        case rel => exact ⟨k + 1, s6, c6, by omega, by go_num, by rw [hnx.out k], p4h.out, hB6.out⟩
        case measure => simp [intOf]; omega
    · obtain rfl : k = n := by omega
      have kb := Lib.hid (d_bytes w.heap.size s2 c2 (enN L k k) (enB L k k) wr hwr (by have := hle.out k; omega))
      have hBh := Lib.hid hB
      clear hwr hB
      go_wp2_with fail
      refine kb.out.mono ?_
      rintro e w5 ⟨g2, c5, rfl, q1, q2, q3, q4, q5⟩
      have q4h := Lib.hid q4
      have q5h := Lib.hid (below_step hBh.out hBh.out.size q5)
      have hgl := hBh.out.size
      clear q4 q5
      go_wp2_with fail
      go_ret2
      exact ⟨g2, c5, rfl, by omega, q2, q3, q4h.out, q5h.out⟩
end Go.Proofs.Ytdpmhfpoendooaa
