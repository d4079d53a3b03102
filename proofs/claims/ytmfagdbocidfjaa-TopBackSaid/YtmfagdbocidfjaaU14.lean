import Derived.Test.YtmfagdbocidfjaaU13
/- A body is hit. Conditions: the state's numbers are such as their types hold. -/
namespace Go.Proofs.Ytmfagdbocidfjaa
open Go.RowKit
def hurtN (x : Int) (S : Nat → Int) : Int := if btn x 32 then 4 + S 1 / 65536 % 3 else 10
def hurt1 (i : Nat) (x : Int) (S : Nat → Int) : Nat → Int := setS S (2 + i * 7 + 4) (wrap64 (S (2 + i * 7 + 4) - hurtN x S))
def hurt2 (i : Nat) (S : Nat → Int) : Nat → Int := setS S (64 + (1 - i)) (wrap64 (S (64 + (1 - i)) + 1))
def hurt3 (i : Nat) (S : Nat → Int) : Nat → Int := setBody S i (if i = 1 then 9830400 else 3276800) 0 0 0 100 0 (if i = 1 then -1 else 1)
def hurtF (i : Nat) (x : Int) (S : Nat → Int) : Nat → Int :=
  if 0 < hurt1 i x S (2 + i * 7 + 4) then hurt1 i x S else hurt3 i (hurt2 i (hurt1 i x S))
set_option maxRecDepth 100000 in
theorem wrap_in (n : Int) : I64 (wrap64 n) := by unfold I64 wrap64; omega
set_option maxRecDepth 100000 in
theorem GOk.hurt {i : Nat} {x : Int} {S : Nat → Int} (h : GOk S) : GOk (hurtF i x S) := by
  have h1 : GOk (hurt1 i x S) := h.set (by omega) (wrap_in _)
  unfold hurtF
  split
  · exact h1
  · have h2 : GOk (hurt2 i (hurt1 i x S)) := h1.set (by omega) (wrap_in _)
    exact h2.body (by split <;> exact ⟨by omega, by omega⟩) (small_in (by decide) (by decide)) (small_in (by decide) (by decide)) (small_in (by decide) (by decide)) (small_in (by decide) (by decide)) (small_in (by decide) (by decide)) (by split <;> exact small_in (by decide) (by decide))
set_option maxRecDepth 100000 in
theorem StAt.born {w : World} {g : Nat} {S : Nat → Int} (h : StAt w g S) {i : Nat} (hi : i < 2) : StAt (w.setCells g (2 + i * 7) (bornA i).toList) g (hurt3 i S) := h.body hi _ _ _ _ _ _ _
set_option maxRecDepth 100000 in
theorem born_size (i : Nat) : (bornA i).size = 7 := rfl
set_option maxRecDepth 100000 in
theorem born_one (i : Nat) : (bornA i).all (·.oneCell') = true := by unfold bornA; simp [Value.oneCell']
set_option maxRecDepth 100000 in
theorem born_info (i : Nat) : (Try.prog.info? 42).map (·.size) = some (bornA i).size := body_info
attribute [local irreducible] stA fmulZ satZ clampZ nearZ bornA
set_option maxRecDepth 100000 in
set_option maxHeartbeats 8000000 in
theorem g_hurt (g i : Nat) (hi : i < 2) (S : Nat → Int) (x : Int) (w : World) (h : StAt w g S) (ok : GOk S) :
    Calls Try.prog 81 #[.pointer (some ⟨g, 0, none⟩), .int .i64 (i : Nat), .int .u16 x] w (GPost w g (hurtF i x S)) := by
  have c1 := h.seed
  have k4 : kdS (2 + i * 7 + 4) = 0 := kd_body hi (by decide)
  have c4 := h.int (o := 2 + i * 7 + 4) (by omega) k4
  have f4 := h.fr (2 + i * 7 + 4)
  have i1 : (i : Int) < 2 := by omega
  have hs1 := ok.2
  have hm : 0 ≤ S 1 / 65536 ∧ S 1 / 65536 < 65536 := by omega
  have hh := Lib.hid h
  have okh := Lib.hid ok
  have kS : kdS (64 + (1 - i)) = 0 := by unfold kdS; rw [if_neg (by omega), if_neg (by omega)]
  obtain ⟨o, ho⟩ : ∃ o, o = 1 - i := ⟨_, rfl⟩
  have ho1 : IntKind.i64.wrap ((1 : Int) - (i : Int)) = (o : Int) := by rw [show (1 : Int) - (i : Int) = (o : Int) by omega]; exact IntWalk.i64_in _ (by omega)
  have ho2 : (o : Int) < 2 := by omega
  have hoh := Lib.hid ho
  clear h ok ho
  go_enter Try.func81, Try.ntmps81
  go_upto_if 10 with (fail)
  go_cut [6] (fun v6 wx => v6 = .int .i64 (hurtN x S) ∧ w = wx)
  case first =>
    have hn : hurtN x S = if (bits BinOp.and IntKind.u16 x 32 != 0) = true then 4 + S 1 / 65536 % 3 else 10 := rfl
    have hnh := Lib.hid hn
    clear hn
    cases hb : (bits BinOp.and IntKind.u16 x 32 != 0)
    · go_wp2_with fail
      go_meet
      exact ⟨by rw [hnh.out, hb]; rfl, rfl⟩
    · go_wp2_with fail
      go_meet
      exact ⟨by rw [hnh.out, hb]; rfl, rfl⟩
  case rest =>
    obtain ⟨rfl, rfl⟩ := hcut
    obtain ⟨n, hn⟩ : ∃ n, hurtN x S = n := ⟨_, rfl⟩
    have hh1 : Hid (StAt _ g (hurt1 i x S)) := hide (hh.out.set (by omega) k4 (wrap64 (S (2 + i * 7 + 4) - hurtN x S)))
    have hg1 := Lib.hid (only_set (only_refl w (some g)) (2 + i * 7 + 4) (.int .i64 (wrap64 (S (2 + i * 7 + 4) - hurtN x S))))
    have hF : hurtF i x S = if 0 < hurt1 i x S (2 + i * 7 + 4) then hurt1 i x S else hurt3 i (hurt2 i (hurt1 i x S)) := rfl
    have hl : hurt1 i x S (2 + i * 7 + 4) = wrap64 (S (2 + i * 7 + 4) - n) := by rw [← hn]; exact setS_same _ _ _
    rw [hn] at hh1 hg1 ⊢
    have hFh := Lib.hid hF
    have hlh := Lib.hid hl
    clear hF hl hn hs1 hm c1 okh hh
    go_upto_region 5 with (fail)
    generalize World.setCell _ _ _ = w1 at *
    generalize hurt1 i x S = S1 at *
    have c4 := hh1.out.int (o := 2 + i * 7 + 4) (by omega) k4
    by_cases h0 : 0 < S1 (2 + i * 7 + 4)
    · have e : Hid (GPost w g (hurtF i x S) (.returned (.tuple #[])) w1) := hide (by
        rw [hFh.out, if_pos h0]; exact ⟨rfl, hh1.out, hg1.out⟩)
      have d : decide (0 < S1 (2 + i * 7 + 4)) = true := decide_eq_true h0
      go_wp2_with fail
      go_end0
      exact e.out
    · have d : decide (0 < S1 (2 + i * 7 + 4)) = false := decide_eq_false h0
      rw [if_neg h0] at hFh
      have hh2 : Hid (StAt (w1.setCell ⟨g, 64 + (1 - i), none⟩ (.int .i64 (wrap64 (S1 (64 + (1 - i)) + 1)))).drew g (hurt2 i S1)) := hide (hh1.out.set (by omega) kS (wrap64 (S1 (64 + (1 - i)) + 1)))
      have hg2 := Lib.hid (only_drew (only_set hg1.out (64 + (1 - i)) (.int .i64 (wrap64 (S1 (64 + (1 - i)) + 1)))))
      have cS := hh1.out.int (o := 64 + (1 - i)) (by omega) kS
      have fS := hh1.out.fr (64 + (1 - i))
      rw [← hoh.out] at cS fS hh2 hg2
      go_upto_region 6 with (fail)
      go_region
      go_upto_region 7 with (fail)
      clear cS fS d c4
      generalize World.drew _ = w2 at *
      generalize hurt2 i S1 = S2 at *
      have hp := born_one i
      go_wp2_with fail
      refine (g_born i hi _).mono ?_
      rintro e w3 ⟨rfl, hB3⟩
      have hh3 : Hid (StAt w3 g S2) := hide ((hB3.block g hh2.out.lt).trans hh2.out)
      have hg3 := Lib.hid (only_trans hg2.out (only_of_below hB3 (some g)))
      have ht : w3.there g (2 + i * 7) (bornA i).size := by rw [born_size]; exact hh3.out.there (by omega)
      have e : Hid (GPost w g (hurtF i x S) (.returned (.tuple #[])) (w3.setCells g (2 + i * 7) (bornA i).toList)) := hide (by
        rw [hFh.out]; exact ⟨rfl, hh3.out.born hi, only_setCells hg3.out _ _⟩)
      go_wp2_with (with_reducible refine wpList_store_mid rfl 42 (.tmp 51) (.tmp 50) rfl g (2 + i * 7) (bornA i) rfl rfl ht (born_info i) hp ?_)
      go_end0
      exact e.out
end Go.Proofs.Ytmfagdbocidfjaa
