/- The contract of package poly's Common. Conditions: the slices read as the functions named. -/
import Derived.Test.YtmdpbacjcidpgaaCommPlain
import Derived.Test.YtmdpbacjcidpgaaDiv
import Derived.Test.YtmdpbacjcidpgaaThru
namespace Go.Proofs.Ytmdpbacjcidpgaa
open Go.RowKit
attribute [local irreducible] gexp gtbl glog rmul rinv rpow zexp
/-- what Euclid's two stand for -/
structure EuInv (f g a b : Nat → Nat) : Prop where
  ba : Bd a
  bb : Bd b
  down : ∀ e, Bd e → Dv e f → Dv e g → Dv e a ∧ Dv e b
  up : ∀ e, Bd e → Dv e a → Dv e b → Dv e f ∧ Dv e g
theorem EuInv.step {f g a b q r : Nat → Nat} {N : Nat} (h : EuInv f g a b) (hq : Bd q) (hz : Zr N q) (hr : Bd r) (he : ∀ k, a k = cv q b k ^^^ r k) : EuInv f g b r :=
  ⟨h.bb, hr, fun e hb h1 h2 => by
    obtain ⟨x, y⟩ := h.down e hb h1 h2
    exact ⟨y, eu_down e a b q r N hb hq hz he x y⟩, fun e hb h1 h2 => h.up e hb (eu_up e a b q r N hb hq hz he h1 h2) h1⟩
/-- the greatest that divides two -/
structure IsComm (f g d : Nat → Nat) (n : Nat) : Prop where
  bd : Bd d
  zr : Zr n d
  top : 0 < n → d (n - 1) = 1
  low : ∀ e, Bd e → Dv e f → Dv e g → Dv e d
  up : 0 < n → Dv d f ∧ Dv d g
  none : n = 0 → (∀ k, f k = 0) ∧ ∀ k, g k = 0
theorem comm_none {f g a b : Nat → Nat} (h : EuInv f g a b) (ha : ∀ k, a k = 0) (hb : ∀ k, b k = 0) : IsComm f g a 0 :=
  ⟨h.ba, fun k _ => ha k, fun h => absurd h (by omega), fun e he h1 h2 => (h.down e he h1 h2).1, fun h => absurd h (by omega), fun _ => by
    have hz : Bd (fun _ : Nat => 0) := fun _ => (by decide : 0 < 256)
    obtain ⟨x, y⟩ := h.up (fun _ => 0) hz (dv_zero _ a ha) (dv_zero _ b hb)
    exact ⟨dv_none _ f (fun _ => rfl) x, dv_none _ g (fun _ => rfl) y⟩⟩
theorem comm_some {f g a b : Nat → Nat} {n : Nat} (h : EuInv f g a b) (hz : Zr (n + 1) a) (ht : a n ≠ 0) (hb : ∀ k, b k = 0) : IsComm f g (fun j => rmul (rinv (a n)) (a j)) (n + 1) := by
  have bi := rinv_lt (a n)
  have e1 : Dv (fun j => rmul (rinv (a n)) (a j)) a := ⟨monF (a n), 1, mon_bd _ (h.ba n), mon_zr _, fun k => by
    rw [cv_mon, rmul_assoc _ _ _ (h.ba n) bi (h.ba k), rmul_rinv _ (h.ba n) ht, one_rmul _ (h.ba k)]⟩
  have e2 : ∀ e, Bd e → Dv e a → Dv e (fun j => rmul (rinv (a n)) (a j)) := fun e he hd => dv_congr e _ _ (dv_cv e a (monF (rinv (a n))) 1 he (mon_bd _ bi) (mon_zr _) hd) (fun k => by rw [cv_mon])
  refine ⟨fun j => rmul_lt _ _, fun k hk => ?_, fun _ => ?_, fun e he h1 h2 => e2 e he (h.down e he h1 h2).1, fun _ => ?_, fun h => absurd h (by omega)⟩
  · show rmul _ (a k) = 0
    rw [hz k hk, rmul_zero_right]
  · show rmul (rinv (a n)) (a n) = 1
    rw [rmul_comm _ _ bi (h.ba n), rmul_rinv _ (h.ba n) ht]
  · obtain ⟨x, y⟩ := h.up a h.ba (dv_refl a h.ba) (dv_zero a b hb)
    exact ⟨dv_trans _ a f (fun j => rmul_lt _ _) e1 x, dv_trans _ a g (fun j => rmul_lt _ _) e1 y⟩
def slLen : Value → Nat
  | .slice _ n _ => n
  | _ => 0
def CommPost (W : World) (f g : Nat → Nat) (M : Nat) (e : Ending) (W' : World) : Prop :=
  ∃ (s : Option Addr) (n cap : Nat) (d : Nat → Nat), e = .returned (.slice s n cap) ∧ n ≤ M ∧ Pv W' s n cap d ∧ IsComm f g d n ∧ Below W.heap.size W W'
attribute [local irreducible] td cvs cv mixF xf OwnB upd
set_option maxRecDepth 100000 in
set_option maxHeartbeats 4000000 in
theorem p_common (p : Nat) (s t : Option Addr) (n m cs ct : Nat) (f g : Nat → Nat) (w : World) (hgf : IsGf w p) (hs : Pv w s n cs f) (ht : Pv w t m ct g) (hf : Bd f) (hg : Bd g) (hzf : Zr n f) (hzg : Zr m g) (hn : n ≤ 2000) (hm : m ≤ 2000) :
    Calls Try.prog 26 #[.pointer (some ⟨p, 0, none⟩), .slice s n cs, .slice t m ct] w (CommPost w f g (max n m)) := by
  have k1 := Lib.hid (p_trim s n cs f w hs (by omega))
  have k2 := Lib.hid (fun W h => p_trim t m ct g W h (by omega))
  have hth := Lib.hid ht
  have hgfh := hide hgf
  have hpl := hgf.lt
  have l1 := td_le f n
  have l2 := td_le g m
  have z1 := Lib.hid (And.intro (td_zr f n hzf) (And.intro (td_zr g m hzg) (And.intro (td_self f n) (td_self g m))))
  have hinv : Hid (EuInv f g f g) := hide ⟨hf, hg, fun e _ h1 h2 => ⟨h1, h2⟩, fun e _ h1 h2 => ⟨h1, h2⟩⟩
  clear hs ht hgf hf hg hzf hzg
  have hM : ∃ M, M = max n m := ⟨_, rfl⟩
  obtain ⟨M, hM⟩ := hM
  have hM1 : td f n ≤ M := by omega
  have hM2 : td g m ≤ M := by omega
  have hM3 : M ≤ 2000 := by omega
  rw [← hM]
  clear hM l1 l2
  generalize td f n = la at *
  generalize td g m = lb at *
  go_enter Try.func26, Try.ntmps26
  go_wp2_with fail
  refine k1.out.mono ?_
  rintro e w1 ⟨ga, ca, rfl, h1, h2, h3, h4, h5⟩
  go_wp2_with fail
  refine (k2.out w1 (hth.out.below h5)).mono ?_
  rintro e w2 ⟨gb, cb, rfl, q1, q2, q3, q4, q5⟩
  have hB := Lib.hid (h5.trans (q5.mono h5.size))
  have r1 := Lib.hid (Pv.row (h4.below q5 h4.lt) h2 h3)
  have r2 := Lib.hid (Pv.row q4 q2 q3)
  clear h4 q4 h5 q5 h1 h2 h3 q1 q2 q3 k1 k2
  go_wp2_with fail
  go_loopw [1, 2] (fun va vb wr => ∃ (s1 s2 : Option Addr) (n1 c1 n2 c2 : Nat) (a b : Nat → Nat), va = .slice s1 n1 c1 ∧ vb = .slice s2 n2 c2 ∧ n1 ≤ M ∧ n2 ≤ M ∧ Pv wr s1 n1 c1 a ∧ Pv wr s2 n2 c2 b ∧ Hid (Zr n1 a ∧ Zr n2 b ∧ td a n1 = n1 ∧ td b n2 = n2) ∧ Hid (EuInv f g a b) ∧ Below w.heap.size w wr) (fun _ vb _ => slLen vb)
  case atStart => exact ⟨_, _, la, ca, lb, cb, f, g, rfl, rfl, hM1, hM2, r1.out, r2.out, z1, hinv, hB.out⟩
  case round =>
    obtain ⟨s1, s2, n1, c1, n2, c2, a, b, rfl, rfl, hn1, hn2, pa, pb, hz, hin, hBr⟩ := hrel
    clear r1 r2 hB z1 hinv
    cases n2 with
    | zero =>
      have hb0 : Hid (∀ k, b k = 0) := hide (fun k => hz.out.2.1 k (Nat.zero_le _))
      cases n1 with
      | zero =>
        have hfin := Lib.hid (comm_none hin.out (fun k => hz.out.1 k (Nat.zero_le _)) hb0.out)
        have pah := Lib.hid pa
        have hBh := Lib.hid hBr
        clear pa pb hBr
        go_wp2_with fail
        go_ret
        exact ⟨s1, 0, c1, a, rfl, Nat.zero_le _, pah.out, hfin.out, hBh.out⟩
      | succ k =>
        have htop : a k ≠ 0 := by
          have h := td_top a (k + 1) (by rw [hz.out.2.2.1]; omega)
          rw [hz.out.2.2.1, Nat.add_sub_cancel] at h
          exact h
        have hfin := Lib.hid (comm_some hin.out hz.out.1 htop hb0.out)
        obtain ⟨b1, off, rfl, hc⟩ := pa.rd k (by omega)
        have hgx := hgfh.out.below hBr hpl
        have hak := hin.out.ba k
        have hiv := Lib.hid (gf_inv p (a k) wr hgx hak htop)
        have hab := hin.out.ba
        have ksc := Lib.hid (fun W (hg : IsGf W p) h => p_scale p (rinv (a k)) (some ⟨b1, off, none⟩) (k + 1) c1 a W hg (rinv_lt _) h hab (by omega))
        have i1 : (k : Int) < (k : Int) + 1 := by omega
        have d1 : ((k : Int) + 1 == 0) = false := by simp; omega
        have d2 : (((k + 1 : Nat) : Int) == 0) = false := by simp; omega
        have pah := Lib.hid pa
        have hBh := Lib.hid hBr
        have hgxh := Lib.hid hgx
        clear pa pb hBr hgx htop hab
        go_wp2_with fail
        refine hiv.out.mono ?_
        rintro e w' ⟨rfl, m7, rfl⟩
        go_wp2_with fail
        refine (ksc.out _ (hgxh.out.drewN m7) (pah.out.drewN m7)).mono ?_
        rintro e w8 ⟨g8, c8, rfl, y1, y2, y3, y4, y5⟩
        have hB8 := Lib.hid ((below_drewN hBh.out m7).trans (y5.mono hBh.out.size))
        have p8 := Lib.hid (Pv.row y4 y2 y3)
        clear y4 y5
        go_wp2_with fail
        go_ret
        exact ⟨_, k + 1, c8, _, rfl, hn1, p8.out, hfin.out, hB8.out⟩
    | succ k =>
      have hgx := hgfh.out.below hBr hpl
      have kd := Lib.hid (p_divide p s1 s2 n1 (k + 1) c1 c2 a b wr hgx pa pb hin.out.ba hin.out.bb hz.out.1 hz.out.2.1 (by omega) (by omega) k hz.out.2.2.2)
      have pbh := Lib.hid pb
      have hBh := Lib.hid hBr
      have hinh := hin
      have hzh := hz
      have i0 : (0 : Int) < (k : Int) + 1 := by omega
      clear pa pb hBr hgx
      go_wp2_with fail
      refine kd.out.mono ?_
      rintro e w5 ⟨g1, d1, g2, d2, nq, nr, q, r, rfl, pq, pr, bq, br, zq, zr, tq, tr, hlt, hle, heq, q3⟩
      have hB5 := Lib.hid (below_step hBh.out hBh.out.size q3)
      have pb5 := Lib.hid (pbh.out.below q3)
      have pr5 := Lib.hid pr
      have hst := Lib.hid (hinh.out.step bq zq br heq)
      have hz5 := Lib.hid (And.intro hzh.out.2.1 (And.intro zr (And.intro hzh.out.2.2.2 tr)))
      clear pq pr bq br zq zr tq tr heq q3 hin hz
      go_wp2_with fail
      go_roundw
      case rel => exact ⟨_, _, k + 1, c2, nr, d2, b, r, rfl, rfl, hn2, by omega, pb5.out, pr5.out, hz5, hst, hB5.out⟩
      case measure => simp [slLen]; omega
end Go.Proofs.Ytmdpbacjcidpgaa
