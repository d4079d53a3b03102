/- The contract of package pacer's Share, where all is right. Conditions: the slice reads as the list, of numbers within 0 and 65536, not more than 256, not all nought; the rate is within its bounds. -/
import Derived.Test.YtchpiiccdoejdaaShare
namespace Go.Proofs.Ytchpiiccdoejdaa
open Go.RowKit
def gZ (l : List Int) (i : Nat) : Int := (l[i]?).getD 0
theorem gZ_of {l : List Int} {i : Nat} {x : Int} (h : l[i]? = some x) : gZ l i = x := by unfold gZ; rw [h]; rfl
attribute [local irreducible] smF ctF shB shL shV ltK mkL shT shR rowZ gZ
theorem smF_zero (f : Nat → Int) : smF f 0 = 0 := by unfold smF; rfl
theorem smF_succ (f : Nat → Int) (k : Nat) : smF f (k + 1) = smF f k + f k := by rw [smF]
theorem shB_tdiv (R S : Int) (f : Nat → Int) (i : Nat) (hR : 0 ≤ R) (hR1 : R ≤ 1048576) (h0 : 0 ≤ f i) (h1 : f i ≤ 65536) (hS : 0 < S) :
    (R * f i).tdiv S = shB R S f i ∧ 0 ≤ R * f i ∧ R * f i ≤ 68719476736 ∧ 0 ≤ shB R S f i ∧ shB R S f i ≤ 68719476736 := by
  have p := Int.mul_nonneg hR h0
  have q : R * f i ≤ 1048576 * 65536 := Int.mul_le_mul hR1 h1 h0 (by omega)
  unfold shB
  rw [Int.tdiv_eq_ediv_of_nonneg p]
  have a := Int.ediv_nonneg p (Int.le_of_lt hS)
  have b := Int.ediv_le_self S p
  exact ⟨rfl, p, by omega, a, by omega⟩
theorem sh_measure (n k : Nat) (a b : Int) (hlt : k < n) (hb : 0 < b) (he : k + 1 = n → a = 0) :
    (if intOf (.int .i64 a) ≤ 0 then 0 else n - (intOf (.int .i64 (((k : Int) + 1) % (n : Int)))).toNat) < if intOf (.int .i64 b) ≤ 0 then 0 else n - (intOf (.int .i64 (k : Int))).toNat := by
  have e1 : ∀ x : Int, intOf (.int .i64 x) = x := fun _ => rfl
  rw [if_neg (show ¬ intOf (.int .i64 b) ≤ 0 from by rw [e1]; omega), e1 (k : Int)]
  by_cases h : a ≤ 0
  · rw [if_pos (show intOf (.int .i64 a) ≤ 0 from by rw [e1]; exact h)]; omega
  · rw [if_neg (show ¬ intOf (.int .i64 a) ≤ 0 from by rw [e1]; exact h)]
    have h1 : k + 1 < n := by
      rcases Nat.lt_or_ge (k + 1) n with q | q
      · exact q
      · exfalso; have := he (by omega); omega
    have h2 : ((k : Int) + 1) % (n : Int) = (k : Int) + 1 := Int.emod_eq_of_lt (by omega) (by omega)
    rw [e1, h2]
    omega
def SharePost (W : World) (l : List Int) (e : Ending) (W' : World) : Prop := ∃ g, W.heap.size ≤ g ∧ e = .returned (.tuple #[.slice (some ⟨g, 0, none⟩) l.length l.length, .int .i64 0]) ∧ W'.ownsRow W.heap.size 3 1 (.slice (some ⟨g, 0, none⟩) l.length l.length) l.length (rowZ l) ∧ Below W.heap.size W W'
set_option maxHeartbeats 2000000 in
theorem s_share_ok (R : Int) (a : Option Addr) (cap : Nat) (l : List Int) (w : World) (hs : SlZ .i64 w a l) (hl : ∀ i, i < l.length → 0 ≤ gZ l i ∧ gZ l i ≤ 65536) (hn : l.length ≤ 256) (hR : 0 ≤ R) (hR1 : R ≤ 1048576) (hS : 0 < smF (gZ l) l.length) :
    Calls Try.prog 8 #[.int .i64 R, .slice a l.length cap] w (SharePost w (mkL l.length (shV R (smF (gZ l) l.length) (gZ l) l.length))) := by
  have hsh := hide hs
  have hlh := hide hl
  have hmk := mkZ l.length (by omega)
  have hmkh := hide hmk
  have hbd := fun k hk => smF_bd (gZ l) l.length hl k hk
  have hbdh := hide hbd
  have hSb := (hbd l.length (Nat.le_refl _)).2
  have hl0 : ∀ i, i < l.length → 0 ≤ gZ l i := fun i hi => (hl i hi).1
  have hle := smB_le R (gZ l) l.length hR hS hl0
  have hleh := hide hle
  have hL := shL_bd R (gZ l) l.length hR hS hl0
  have hL1 := (hle l.length (Nat.le_refl _)).1
  have hLh := hide hL
  have hLR : shL R (smF (gZ l) l.length) (gZ l) l.length ≤ R := by unfold shL; omega
  have hLe : Hid (R - smF (shB R (smF (gZ l) l.length) (gZ l)) l.length = shL R (smF (gZ l) l.length) (gZ l) l.length) := hide (by unfold shL; rfl)
  obtain ⟨hL2, hL3⟩ := hL
  have hSh : Hid (0 < smF (gZ l) l.length) := hS
  clear hs hl hbd hl0 hle hL3 hL1
  go_enter Try.func8, Try.ntmps8
  clear hmk
  go_wp2_with fail
  go_loop [6, 16] (fun v i => ∃ k : Nat, k ≤ l.length ∧ i = .int .i64 k ∧ v = .int .i64 (smF (gZ l) k)) (fun _ i => l.length - (intOf i).toNat)
  case atStart => exact ⟨0, by omega, rfl, by rw [smF_zero]⟩
  case round =>
    obtain ⟨k, hk, rfl, rfl⟩ := hrel
    by_cases hlt : k < l.length
    · obtain ⟨x, hx⟩ : ∃ x, l[k]? = some x := ⟨_, List.getElem?_eq_getElem hlt⟩
      obtain ⟨b, off, rfl, hc⟩ := hsh.out k x hx
      have hgk := gZ_of hx
      have hb2 := hlh.out k hlt
      have he := smF_succ (gZ l) k
      have hb3 := hbdh.out k hk
      rw [hgk] at hb2 he
      obtain ⟨q0, q1⟩ := hb2
      obtain ⟨q2, q3⟩ := hb3
      have heh := Lib.hid he
      clear hx hgk he
      go_wp2_with fail
      go_round
      case rel => exact ⟨k + 1, by omega, by go_num, by rw [heh.out]⟩
      case measure => simp [intOf]; omega
    · obtain rfl : k = l.length := by omega
      have hS0 : (smF (gZ l) l.length == 0) = false := by simp; omega
      generalize hSS : smF (gZ l) l.length = S at *
      have hmk := hmkh.out
      go_wp2_with fail
      clear hmk
      have hn2 : l.length ≤ 256 := hn
      generalize hnn : l.length = n at *
      go_loopw [10, 51] (fun v i wr => ∃ k : Nat, k ≤ n ∧ i = .int .i64 k ∧ v = .int .i64 (R - smF (shB R S (gZ l)) k) ∧ wr.ownsRow w.heap.size 3 1 (.slice (some ⟨w.heap.size, 0, none⟩) n n) n (rowZ (mkL n (shR R S (gZ l) k))) ∧ Below w.heap.size w wr) (fun _ i _ => n - (intOf i).toNat)
      case atStart =>
        refine ⟨0, by omega, rfl, by rw [smF_zero, Int.sub_zero], ?_, (Below.refl _ _).alloc (Nat.le_refl _) _⟩
        rw [shR_zero, ← made_rowZ]
        exact World.ownsRow_lit w _ _ (Nat.le_refl _) (by unfold maxLen; omega) (by rw [size_madeCells]; omega)
      case round =>
        obtain ⟨k, hk, rfl, rfl, hown, hbel⟩ := hrel
        by_cases hlt : k < n
        · obtain ⟨x, hx⟩ : ∃ x, l[k]? = some x := ⟨_, List.getElem?_eq_getElem (by omega)⟩
          obtain ⟨b, off, rfl, hc⟩ := (hsh.out.below hbel) k x hx
          have hgk := gZ_of hx
          have hb2 := hlh.out k hlt
          rw [hgk] at hb2
          obtain ⟨q0, q1⟩ := hb2
          obtain ⟨d0, d1, d2, d3, d4⟩ := shB_tdiv R S (gZ l) k hR hR1 (by rw [hgk]; exact q0) (by rw [hgk]; exact q1) (by omega)
          rw [hgk] at d0 d1 d2
          have he := smF_succ (shB R S (gZ l)) k
          obtain ⟨e0, e1⟩ := hleh.out k hk
          obtain ⟨e2, e3⟩ := hleh.out (k + 1) (by omega)
          rw [he] at e2 e3
          have hgr := mkL_get n (shR R S (gZ l) k) k hlt
          have hcy : wr.cell? ⟨w.heap.size, k, none⟩ = some (.int .i64 (shR R S (gZ l) k k)) := by rw [hown.cellAt k (by omega), rowZ_get, hgr]; rfl
          have hfy := hown.frozenAt k
          have hnx := hide (shR_next R S (gZ l) n k)
          have hownh := hide hown
          have heh := Lib.hid he
          clear hx hgk he hgr hown
          go_wp2_with fail
          go_roundw
          case rel =>
            refine ⟨k + 1, by omega, by go_num, by rw [heh.out, Int.sub_sub], ?_, hbel.setCell (Nat.le_refl _) _⟩
            rw [← hnx.out, ← rowZ_set]
            exact (World.ownsRow.stored (w := wr) hownh.out k _).1
          case measure => simp [intOf]; omega
        · obtain rfl : k = n := by omega
          rw [shR_end] at hown
          rw [hLe.out]
          obtain ⟨hL4, hL3⟩ := hLh.out
          have hne := ltK_end R S (gZ l) k hL3
          have hneh := Lib.hid hne
          have hownh := hide hown
          have hLRh := Lib.hid hLR
          have hl0h := Lib.hid (ltK_zero R S (gZ l) k hL2)
          have hlle := fun j => ltK_le R S (gZ l) k j hL2
          have hlleh := hide hlle
          clear hown hlle hL4 hL3 hne hleh hbdh hmkh hLe
          generalize hLL : shL R S (gZ l) k = L at *
          clear hLh
          generalize hnn2 : k = n at *
          go_wp2_with fail
          go_loopw [10, 13] (fun v i wr => ∃ k : Nat, k ≤ n ∧ i = .int .i64 ((k % n : Nat) : Int) ∧ v = .int .i64 (ltK R S (gZ l) n k) ∧ wr.ownsRow w.heap.size 3 1 (.slice (some ⟨w.heap.size, 0, none⟩) n n) n (rowZ (mkL n (shT R S (gZ l) n k))) ∧ Below w.heap.size w wr) (fun v i _ => if intOf v ≤ 0 then 0 else n - (intOf i).toNat)
          case atStart => exact ⟨0, by omega, by rw [Nat.zero_mod]; rfl, by rw [hl0h.out], by rw [shT_zero]; exact hownh.out, hbel⟩
          case round =>
            obtain ⟨k, hk, rfl, rfl, hown, hbel⟩ := hrel
            have hk0 := ltK_nonneg R S (gZ l) n k
            have hkL := hlleh.out k
            by_cases hpos : 0 < ltK R S (gZ l) n k
            · have hlt : k < n := by
                rcases Nat.lt_or_ge k n with h | h
                · exact h
                · exfalso
                  have e : k = n := by omega
                  rw [e, hneh.out] at hpos
                  omega
              have hmd : k % n = k := Nat.mod_eq_of_lt hlt
              rw [hmd]
              obtain ⟨x, hx⟩ : ∃ x, l[k]? = some x := ⟨_, List.getElem?_eq_getElem (by omega)⟩
              obtain ⟨b, off, rfl, hc⟩ := (hsh.out.below hbel) k x hx
              have hgk := gZ_of hx
              have hb2 := hlh.out k hlt
              obtain ⟨d0, d1, d2, d3, d4⟩ := shB_tdiv R S (gZ l) k hR hR1 hb2.1 hb2.2 (by omega)
              clear d0 d1 d2
              have hgr := mkL_get n (shT R S (gZ l) n k) k hlt
              have hcy : wr.cell? ⟨w.heap.size, k, none⟩ = some (.int .i64 (shB R S (gZ l) k)) := by
                rw [hown.cellAt k (by omega), rowZ_get, hgr]
                unfold shT
                rw [if_neg (Nat.lt_irrefl k)]
                rfl
              have hfy := hown.frozenAt k
              have hmod : ((k : Int) + 1).tmod (n : Int) = (((k + 1) % n : Nat) : Int) := by
                rw [Int.tmod_eq_emod_of_nonneg (by omega)]; rfl
              have hms : k + 1 < n ∨ (k + 1 = n) := by omega
              have hml := Nat.mod_lt (k + 1) (show 0 < n by omega)
              have hn0 : ((n : Int) == 0) = false := by simp; omega
              have hpos0 : (decide (ltK R S (gZ l) n k > 0)) = true := decide_eq_true hpos
              by_cases hx0 : 0 < x
              · have hnx := Lib.hid (shT_some R S (gZ l) n k hpos (by rw [hgk]; exact hx0))
                have hnl := Lib.hid (ltK_some R S (gZ l) n k hpos (by rw [hgk]; exact hx0))
                have hownh := hide hown
                have hmsh := Lib.hid hms
                clear hx hgk hgr hown hb2 hms
                go_wp2_with fail
                go_roundw
                case rel =>
                  refine ⟨k + 1, hlt, rfl, by rw [hnl.out], ?_, hbel.setCell (Nat.le_refl _) _⟩
                  rw [← hnx.out, ← rowZ_set]
                  exact (World.ownsRow.stored (w := wr) hownh.out k _).1
                case measure =>
                  rw [← hnl.out]
                  exact sh_measure n k _ _ hlt hpos (fun e => by rw [e, hneh.out])
              · have hnx := Lib.hid (shT_none R S (gZ l) n k (by rw [hgk]; exact hx0))
                have hnl := Lib.hid (ltK_none R S (gZ l) n k (by rw [hgk]; exact hx0))
                have hx00 : (decide (x > 0)) = false := decide_eq_false hx0
                have hownh := hide hown
                have hmsh := Lib.hid hms
                clear hx hgk hgr hown hb2 hms
                go_wp2_with fail
                go_roundw
                case rel => exact ⟨k + 1, hlt, rfl, by rw [hnl.out], by rw [← hnx.out]; exact hownh.out, hbel⟩
                case measure => exact sh_measure n k _ _ hlt hpos (fun e => by rw [← hnl.out, e, hneh.out])
            · have hpos0 : (decide (ltK R S (gZ l) n k > 0)) = false := decide_eq_false hpos
              rw [shT_end R S (gZ l) n k (by omega)] at hown
              have hownh := hide hown
              clear hown
              go_wp2_with fail
              go_ret2
              exact ⟨w.heap.size, Nat.le_refl _, by rw [mkL_length]; rfl, by rw [mkL_length]; exact hownh.out, hbel⟩
end Go.Proofs.Ytchpiiccdoejdaa
