import Derived.Test.YtmfagdbocidfjaaV40
import Derived.Test.YtmfagdbocidfjaaV30
/- The window of groups: a shard of a group that was told already is refused. Conditions: what the blocks hold. -/
namespace Go.Proofs.Ytmfagdbocidfjaa
open Go.RowKit
attribute [local irreducible] blk wLoad wLoadRes loadAns wStore wStoreRes storeAns Plain BRow shC inL grD
attribute [local go_sem ↓] ld_d0 sto_d0
attribute [local go_sem] ld_d sto_d loadAns_some storeAns_some dg_size dg_plain blk_alloc_if blk_setRow_if blk_drew_at blk_drewN_at rowPut_some blk_setCell_if cellPut_some
set_option maxRecDepth 100000 in
set_option maxHeartbeats 4000000 in
theorem re_take_old (x p base fr fi K m i g c : Nat) (rdy : Value) (d mm : Int) (q : Nat → Value) (w : World) (hw : WinAt w x p (base + 1) fr rdy d mm q) (hb : base < 32) (hK1 : 1 ≤ K) (hK : K ≤ 8) (hm : m ≤ 6) (hi : i < K + m) :
    Calls Try.prog 25 #[.pointer (some ⟨x, 0, none⟩), dgV (base : Nat) (fi : Nat) K m i g c] w (fun e w' => e = .returned (.int .i64 90) ∧ Below w.heap.size w w') := by
  have hdk : dgK K i = 2 ∨ dgK K i = 3 := by unfold dgK; split <;> simp
  unfold dgV at *
  obtain ⟨kd, hkd⟩ : ∃ kd, dgK K i = kd := ⟨_, rfl⟩
  rw [hkd] at hdk ⊢
  have hdkh := Lib.hid hdk
  obtain ⟨W, hW⟩ : ∃ W, w.alloc (.cells #[.int .i64 kd, .int .u32 0, .int .u32 0, .int .i64 0, .int .u32 0, .int .u32 (base : Nat), .int .u32 (fi : Nat), .int .i64 (K : Nat), .int .i64 (m : Nat), .int .i64 (i : Nat), .slice (some ⟨g, 0, none⟩) 2 c] 73) = W := ⟨_, rfl⟩
  have hBW : Hid (Below w.heap.size w W) := hide (hW ▸ (Below.refl _ _).alloc (Nat.le_refl _) _)
  obtain ⟨z, hz⟩ : ∃ z, w.heap.size = z := ⟨_, rfl⟩
  have hblk : W.heap[z]? = some (.cells #[.int .i64 kd, .int .u32 0, .int .u32 0, .int .i64 0, .int .u32 0, .int .u32 (base : Nat), .int .u32 (fi : Nat), .int .i64 (K : Nat), .int .i64 (m : Nat), .int .i64 (i : Nat), .slice (some ⟨g, 0, none⟩) 2 c] 73 (0, 0)) := by rw [← hW, ← hz]; exact Array.getElem?_push_size (xs := w.heap)
  have hblkh := Lib.hid hblk
  have hzh := Lib.hid hz
  obtain ⟨e0, _, _, _, _, e5, e6, e7, e8, e9, e10⟩ := dg_cl hblk
  have k1 : decide ((K : Int) < 1) = false := decide_eq_false (by omega)
  have k2 : decide ((16 : Int) < (K : Int)) = false := decide_eq_false (by omega)
  have k3 : decide ((m : Int) < 0) = false := decide_eq_false (by omega)
  have k4 : decide ((16 : Int) < (m : Int)) = false := decide_eq_false (by omega)
  have k5 : decide ((i : Int) < 0) = false := decide_eq_false (by omega)
  have k6 : IntKind.i64.wrap ((K : Int) + (m : Int)) = (K : Int) + (m : Int) := IntWalk.i64_in _ (by omega)
  have k7 : decide ((K : Int) + (m : Int) ≤ (i : Int)) = false := decide_eq_false (by omega)
  have k8 : (i : Int) < (K : Int) + (m : Int) := by omega
  have hpl := Lib.hid (re_place_old x p base fr rdy d mm q W (hw.below hBW.out) hb)
  have hWh := Lib.hid hW
  clear hw hb hdk hW hblk hz hkd
  go_enter Try.func25, Try.ntmps25
  go_upto_region 1 with (fail)
  rw [hWh.out, hzh.out]
  go_cut [14] (fun v14 wx => v14 = .bool false ∧ wx = W)
  case first =>
    rcases hdkh.out with rfl | rfl
    all_goals
      go_wp2_with fail
      go_meet
      exact ⟨rfl, rfl⟩
  case rest =>
    obtain ⟨rfl, rfl⟩ := hcut
    go_upto_region 7 with (fail)
    go_wp2_with fail
    refine hpl.out.mono ?_
    rintro _ wd ⟨rfl, rfl⟩
    go_wp2_with fail
    go_ret
    exact ⟨rfl, hBW.out⟩
end Go.Proofs.Ytmfagdbocidfjaa

/- A group's shards are taken one behind the other: how the window stands. Conditions: what the blocks hold. -/
namespace Go.Proofs.Ytmfagdbocidfjaa
open Go.RowKit
/-- fewer shards than are needed came -/
def OpenSt (w : World) (x p j fr K m n k : Nat) (In : Nat → Nat) (L : List Value) : Prop :=
  ∃ (I : Nat → Nat) (rdy : Value) (d mm : Int) (q : Nat → Value) (ss : Option Addr) (cs : Nat) (G cc : Nat → Nat), (∀ t, t < n → I t < k) ∧ (∀ t, t + 1 < n → I t < I (t + 1)) ∧
    WinAt w x p j fr rdy d mm q ∧ ((n = 0 ∧ q = pz ∧ ss = none ∧ cs = 0) ∨ q = pq fr K m (.slice ss n cs)) ∧ SdAt w x (.slice ss n cs) n I G cc (fun t => grD K In (I t)) ∧ VAt w x 34 1 rdy fr L
/-- the groups ahead of j were told -/
def ToldSt (w : World) (x p j fr : Nat) (L : List Value) : Prop := ∃ rdy d mm, WinAt w x p j fr rdy d mm pz ∧ VAt w x 34 1 rdy fr L
/-- n of the first k shards of group j came -/
def GrSt (w : World) (x p j fr K m n k : Nat) (In : Nat → Nat) (L : List Value) : Prop :=
  (n < K ∧ OpenSt w x p j fr K m n k In L) ∨ (K ≤ n ∧ ToldSt w x p (j + 1) (fr + K) (L ++ inL In K))
section
variable {w w' : World} {x p j fr K m n k : Nat} {In : Nat → Nat} {L : List Value}
set_option maxRecDepth 100000 in
theorem OpenSt.below (h : OpenSt w x p j fr K m n k In L) (hb : Below w.heap.size w w') : OpenSt w' x p j fr K m n k In L := by
  obtain ⟨I, rdy, d, mm, q, ss, cs, G, cc, h1, h2, h3, h4, h5, h6⟩ := h
  exact ⟨I, rdy, d, mm, q, ss, cs, G, cc, h1, h2, h3.below hb, h4, h5.below hb, h6.below hb⟩
set_option maxRecDepth 100000 in
theorem ToldSt.below (h : ToldSt w x p j fr L) (hb : Below w.heap.size w w') : ToldSt w' x p j fr L := by
  obtain ⟨rdy, d, mm, h1, h2⟩ := h
  exact ⟨rdy, d, mm, h1.below hb, h2.below hb⟩
set_option maxRecDepth 100000 in
theorem GrSt.below (h : GrSt w x p j fr K m n k In L) (hb : Below w.heap.size w w') : GrSt w' x p j fr K m n k In L := by
  rcases h with ⟨h1, h2⟩ | ⟨h1, h2⟩
  · exact .inl ⟨h1, h2.below hb⟩
  · exact .inr ⟨h1, h2.below hb⟩
set_option maxRecDepth 100000 in
theorem ToldSt.lt (h : ToldSt w x p j fr L) : x < w.heap.size := by
  obtain ⟨rdy, d, mm, h1, h2⟩ := h
  exact h1.lt
set_option maxRecDepth 100000 in
theorem GrSt.lt (h : GrSt w x p j fr K m n k In L) : x < w.heap.size := by
  rcases h with ⟨h1, h2⟩ | ⟨h1, h2⟩
  · obtain ⟨I, rdy, d, mm, q, ss, cs, G, cc, h1, h2, h3, h4, h5, h6⟩ := h2
    exact h3.lt
  · exact h2.lt
set_option maxRecDepth 100000 in
/-- the next group -/
theorem ToldSt.begin (h : ToldSt w x p j fr L) (hK : 1 ≤ K) : GrSt w x p j fr K m 0 0 In L := by
  obtain ⟨rdy, d, mm, h1, h2⟩ := h
  exact .inl ⟨hK, fun _ => 0, rdy, d, mm, pz, none, 0, fun _ => 0, fun _ => 0, fun t ht => absurd ht (by omega), fun t ht => absurd ht (by omega), h1, .inl ⟨rfl, rfl, rfl, rfl⟩, ⟨VAt.nil _ _ _ _, fun t ht => absurd ht (by omega)⟩, h2⟩
set_option maxRecDepth 100000 in
theorem GrSt.skip (h : GrSt w x p j fr K m n k In L) : GrSt w x p j fr K m n (k + 1) In L := by
  rcases h with ⟨h1, I, rdy, d, mm, q, ss, cs, G, cc, h2, h3⟩ | h
  · exact .inl ⟨h1, I, rdy, d, mm, q, ss, cs, G, cc, fun t ht => by have := h2 t ht; omega, h3⟩
  · exact .inr h
set_option maxRecDepth 100000 in
theorem GrSt.done (h : GrSt w x p j fr K m n k In L) (hn : K ≤ n) : ToldSt w x p (j + 1) (fr + K) (L ++ inL In K) := by
  rcases h with ⟨h1, _⟩ | ⟨_, h⟩
  · omega
  · exact h
set_option maxRecDepth 100000 in
theorem shC_congrI (I I' G c : Nat → Nat) : ∀ n, (∀ j, j < n → I j = I' j) → shC I G c n = shC I' G c n
  | 0, _ => rfl
  | n + 1, h => by
    unfold shC
    rw [shC_congrI I I' G c n (fun j hj => h j (by omega)), h n (by omega)]
set_option maxRecDepth 100000 in
theorem SdAt.congrI {lo : Nat} {v : Value} {I I' G c : Nat → Nat} {V V' : Nat → Nat → Nat} (h : SdAt w lo v n I G c V) (e : ∀ j, j < n → I j = I' j) (e2 : ∀ j, j < n → V j = V' j) : SdAt w lo v n I' G c V' := by
  refine ⟨by rw [← shC_congrI I I' G c n e]; exact h.1, fun j hj => ?_⟩
  rw [← e2 j hj]
  exact h.2 j hj
end
set_option maxRecDepth 100000 in
set_option maxHeartbeats 4000000 in
theorem gs_take (x p j fr K m n k g c : Nat) (In : Nat → Nat) (L : List Value) (w : World) (h : GrSt w x p j fr K m n k In L) (hj : j < 32) (hf : fr ≤ 900) (hK1 : 1 ≤ K) (hK : K ≤ 8) (hm : m ≤ 6) (hk : k < K + m) (hn : n ≤ k) (hp : IsGf w p) (hpx : p < x) (hd : BRow w g 2 (grD K In k)) (hIn : ∀ t, In t < 65536) :
    Calls Try.prog 25 #[.pointer (some ⟨x, 0, none⟩), dgV (j : Nat) (fr : Nat) K m k g c] w (fun e w' => (∃ z, e = .returned (.int .i64 z)) ∧ GrSt w' x p j fr K m (n + 1) (k + 1) In L ∧ Below x w w' ∧ Kpt w w') := by
  have hxl := h.lt
  rcases h with ⟨hnK, I, rdy, d, mm, q, ss, cs, G, cc, hI, hi, hw, hq, hs, hr⟩ | ⟨hnK, h⟩
  · obtain ⟨J, hJ⟩ : ∃ J : Nat → Nat, ∀ t, J t = if t = n then k else I t := ⟨_, fun _ => rfl⟩
    have hJI : ∀ t, t < n → I t = J t := fun t ht => by rw [hJ, if_neg (by omega)]
    have hJn : J n = k := by rw [hJ, if_pos rfl]
    have hJk : ∀ t, t < n + 1 → J t < k + 1 := fun t ht => by
      by_cases e : t = n
      · subst e; omega
      · have := hI t (by omega); rw [← hJI t (by omega)]; omega
    have hJi : ∀ t, t + 1 < n + 1 → J t < J (t + 1) := fun t ht => by
      by_cases e : t + 1 = n
      · rw [e, hJn, ← hJI t (by omega)]
        exact hI t (by omega)
      · rw [← hJI t (by omega), ← hJI (t + 1) (by omega)]
        exact hi t (by omega)
    have hs' : SdAt w x (.slice ss n cs) n J G cc (fun t => grD K In (J t)) := hs.congrI hJI (fun t ht => by rw [hJI t ht])
    have hq4 : q 4 = .slice ss n cs := by rcases hq with ⟨rfl, rfl, rfl, rfl⟩ | rfl <;> rfl
    have hq5 : q 5 = .slice none 0 0 := by rcases hq with ⟨_, rfl, _⟩ | rfl <;> rfl
    have hq6 : q 6 = .bool false := by rcases hq with ⟨_, rfl, _⟩ | rfl <;> rfl
    have hfit : ∀ y, Below w.heap.size w y → Calls Try.prog 57 #[.pointer (some ⟨x, 3 + j * 7, none⟩), dgV (j : Nat) (fr : Nat) K m k g c] y (BoolB true y) := fun y hy => by
      have hpy := (hw.part hj).below hy
      rcases hq with ⟨_, rfl, _⟩ | rfl
      · exact re_fits_new x _ _ _ K m k g c y hpy
      · exact re_fits x _ j fr K m k g c _ y hpy
    have hJlt : ∀ t, t < n → J t < k := fun t ht => by rw [← hJI t ht]; exact hI t ht
    by_cases hfull : n + 1 < K
    · refine (re_take x p j fr fr K m k n g c cs ss rdy d mm q J G cc (grD K In k) (fun t => grD K In (J t)) L w (Took w x p j fr fr K m n rdy d mm J (fun t => grD K In (J t)) L) (Took w x p j fr fr K m n rdy d mm J (fun t => grD K In (J t)) L) hw hj hq4 hq5 hq6 hs' hr hd (by omega) hK1 hK hm hk hJn hJlt (fun t ht => by rw [hJn]) hfit ?_ ?_).mono ?_
      · rintro y ⟨b, off, cap, G', cc', t1, t2, t3, t4, t5⟩
        have hpy := t1.part hj
        refine (re_mend_no x x _ (n + 1) cap K _ y (hpy 2 (by omega)) (hpy 4 (by omega)) hfull).mono ?_
        rintro e y' ⟨rfl, hb⟩
        exact ⟨rfl, b, off, cap, G', cc', t1.below hb, t2.below hb, t3.below hb, t4.trans (hb.mono (Nat.le_of_lt t1.lt)), t5.trans (Kpt.below hb)⟩
      · rintro y ⟨b, off, cap, G', cc', t1, t2, t3, t4, t5⟩
        have hpy := t1.part hj
        refine (re_tell_no x j j y t1.cells.2.1 (by omega) (by omega) (hpy 6 (by omega))).mono ?_
        rintro e y' ⟨rfl, hb⟩
        exact ⟨rfl, b, off, cap, G', cc', t1.below hb, t2.below hb, t3.below hb, t4.trans (hb.mono (Nat.le_of_lt t1.lt)), t5.trans (Kpt.below hb)⟩
      · rintro e y ⟨rfl, b, off, cap, G', cc', t1, t2, t3, t4, t5⟩
        exact ⟨⟨0, rfl⟩, .inl ⟨hfull, J, rdy, d, mm, _, some ⟨b, off, none⟩, cap, G', cc', hJk, hJi, t1, .inr rfl, t2, t3⟩, t4, t5⟩
    · obtain rfl : n + 1 = K := by omega
      refine (re_take x p j fr fr (n + 1) m k n g c cs ss rdy d mm q J G cc (grD (n + 1) In k) (fun t => grD (n + 1) In (J t)) L w (fun y => ∃ b off cap inp mm', WinAt y x p j fr rdy d mm' (pd fr (n + 1) m (.slice (some ⟨b, off, none⟩) (n + 1) cap) inp) ∧ OwnZ y x 34 .u16 inp (n + 1) (fun i => (In i : Nat)) ∧ VAt y x 34 1 rdy fr L ∧ Below x w y ∧ Kpt w y) (fun y => ToldSt y x p (j + 1) (fr + (n + 1)) (L ++ inL In (n + 1)) ∧ Below x w y ∧ Kpt w y) hw hj hq4 hq5 hq6 hs' hr hd (by omega) hK1 hK hm hk hJn hJlt (fun t ht => by rw [hJn]) hfit ?_ ?_).mono ?_
      · rintro y ⟨b, off, cap, G', cc', t1, t2, t3, t4, t5⟩
        have hpw : p < w.heap.size := hp.lt
        refine (re_mend x p j _ fr fr (n + 1) m x b off cap rdy d mm J G' cc' In y t1 hj rfl ((t4.block p hpx).trans hp) hpx t2 hK1 hK hm (fun t ht => by have := hJk t ht; omega) hJi hIn).mono ?_
        rintro e y' ⟨rfl, inp, mm', u1, u2, u3⟩
        obtain ⟨Cx, hCx⟩ := t1.type
        exact ⟨rfl, b, off, cap, inp, mm', u1, u2.base (Nat.le_of_lt t1.lt), t3.other u3 (fun b hb => by cases hb; exact ⟨Cx, _, hCx, by decide⟩), below_grown t4 (Nat.le_of_lt hw.lt) u3 (fun b hb => by cases hb; exact Nat.le_refl _), t5.trans (Kpt.grown u3 (fun b hb => by cases hb; exact ⟨Cx, _, hCx, by decide⟩))⟩
      · rintro y ⟨b, off, cap, inp, mm', t1, t2, t3, t4, t5⟩
        obtain ⟨s, ci, rfl, hz, _, _, hnone⟩ := t2.open
        obtain ⟨bi, oi, rfl, _⟩ := hz 0 (by omega)
        refine (re_tell x p j fr (n + 1) m bi oi ci rdy _ d mm' L In y t1 hj t3 (fun t ht => by
          obtain ⟨b', o', e, h⟩ := hz t ht
          cases e
          exact h) (by omega) hK).mono ?_
        rintro e y' ⟨rfl, rdy', u1, u2, u3, u4⟩
        exact ⟨rfl, ⟨rdy', d, mm', u1, u2⟩, t4.trans u3, t5.trans u4⟩
      · rintro e y ⟨rfl, t1, t2, t3⟩
        exact ⟨⟨0, rfl⟩, .inr ⟨Nat.le_refl _, t1⟩, t2, t3⟩
  · obtain ⟨rdy, d, mm, h1, h2⟩ := h
    refine (re_take_old x p j (fr + K) fr K m k g c rdy d mm pz w h1 hj hK1 hK hm hk).mono ?_
    rintro e y ⟨rfl, hb⟩
    exact ⟨⟨90, rfl⟩, .inr ⟨by omega, rdy, d, mm, h1.below hb, h2.below hb⟩, hb.mono (Nat.le_of_lt h1.lt), Kpt.below hb⟩
end Go.Proofs.Ytmfagdbocidfjaa

/- group.Make. Conditions: the tables' block, what the inputs read as. -/
namespace Go.Proofs.Ytmfagdbocidfjaa
open Go.RowKit
attribute [local irreducible] gexp gtbl glog rmul rinv rpow zexp mixF blk wLoad wLoadRes loadAns wStore wStoreRes storeAns Plain flF BRow MRow MAt By IsGf ivS rsF mlF RowsAt paF OwnS SlR dtF inV grD
attribute [local go_sem ↓] ld_g0 sto_g0
attribute [local go_sem] ld_g sto_g loadAns_some storeAns_some gg_size gg_plain blk_alloc_if blk_setRow_if blk_drew_at blk_drewN_at rowPut_some blk_setCell_if cellPut_some
set_option maxRecDepth 100000 in
set_option maxHeartbeats 2000000 in
theorem s_make_no (p : Nat) (no fi m : Int) (K : Nat) (si : Option Addr) (ci : Nat) (w : World) (h : K = 0 ∨ 16 < K ∨ m < 0 ∨ 16 < m) :
    Calls Try.prog 48 #[.pointer (some ⟨p, 0, none⟩), .int .u32 no, .int .u32 fi, .int .i64 m, .slice si K ci] w (MkNo w (.int .i64 60)) := by
  have hz := zeroGG
  have hB := Lib.hid (below_one w (.cells #[.int .u32 0, .int .u32 0, .int .i64 0, .int .i64 0, .slice none 0 0] 70))
  have b0 := blk_of (last_block0 w (.cells #[.int .u32 0, .int .u32 0, .int .i64 0, .int .i64 0, .slice none 0 0] 70) _ rfl)
  have hfin : Hid (∀ D, MkNo w (.int .i64 60) (.returned (.tuple #[.agg #[.int .u32 0, .int .u32 0, .int .i64 0, .int .i64 0, .slice none 0 0], .int .i64 60])) ((w.alloc (.cells #[.int .u32 0, .int .u32 0, .int .i64 0, .int .i64 0, .slice none 0 0] 70)).setRow w.heap.size D)) := hide (fun D => ⟨rfl, below_setRow hB.out (Nat.le_refl _) D⟩)
  have kno := Lib.hid (fun (h : (K : Int) < 1 ∨ m < 0) y => s_code_no (.pointer (some ⟨p, 0, none⟩)) K m y h)
  have b0h := Lib.hid b0
  by_cases h1 : 16 < K
  · have d0 : decide ((16 : Int) < (K : Int)) = true := decide_eq_true (by omega)
    have d1 : decide (16 < K) = true := decide_eq_true (by omega)
    clear h h1
    go_enter Try.func48, Try.ntmps48
    go_upto_region 1 with (fail)
    generalize World.alloc w _ = W at *
    go_wp2_with fail
    refine bodyPost_ret (v := .tuple #[.agg #[.int .u32 0, .int .u32 0, .int .i64 0, .int .i64 0, .slice none 0 0], .int .i64 60]) (results_row_tmp rfl _ _ w.heap.size 70 _ (0, 0) _ _ rfl rfl (setRow_heap _ _ _ _ _ _ (blk_heap b0h.out)) Try.underlying70 rfl gg_info) rfl (hfin.out _)
  · have d0 : decide ((16 : Int) < (K : Int)) = false := decide_eq_false (by omega)
    have d1 : decide (16 < K) = false := decide_eq_false (by omega)
    by_cases h2 : 16 < m
    · have d2 : decide (16 < m) = true := decide_eq_true h2
      clear h h1 h2
      go_enter Try.func48, Try.ntmps48
      go_upto_region 1 with (fail)
      generalize World.alloc w _ = W at *
      go_wp2_with fail
      refine bodyPost_ret (v := .tuple #[.agg #[.int .u32 0, .int .u32 0, .int .i64 0, .int .i64 0, .slice none 0 0], .int .i64 60]) (results_row_tmp rfl _ _ w.heap.size 70 _ (0, 0) _ _ rfl rfl (setRow_heap _ _ _ _ _ _ (blk_heap b0h.out)) Try.underlying70 rfl gg_info) rfl (hfin.out _)
    · have d2 : decide (16 < m) = false := decide_eq_false h2
      have h3 := Lib.hid (show (K : Int) < 1 ∨ m < 0 by omega)
      clear h h1 h2
      go_enter Try.func48, Try.ntmps48
      go_upto_region 1 with (fail)
      generalize World.alloc w _ = W at *
      go_wp2_with fail
      refine (kno.out h3.out W).mono ?_
      rintro e w2 ⟨rfl, rfl⟩
      go_wp2_with fail
      refine bodyPost_ret (v := .tuple #[.agg #[.int .u32 0, .int .u32 0, .int .i64 0, .int .i64 0, .slice none 0 0], .int .i64 60]) (results_row_tmp rfl _ _ w.heap.size 70 _ (0, 0) _ _ rfl rfl (setRow_heap _ _ _ _ _ _ (blk_heap b0h.out)) Try.underlying70 rfl gg_info) rfl (hfin.out _)
set_option maxRecDepth 100000 in
set_option maxHeartbeats 8000000 in
theorem s_make (p K m : Nat) (no fi : Int) (I : Nat → Nat) (si : Option Addr) (ci : Nat) (w : World) (hp : IsGf w p) (hs : ZAt w .u16 si K (fun i => (I i : Nat))) (hI : ∀ j, I j < 65536) (h0 : 1 ≤ K) (hK : K ≤ 16) (hm : m ≤ 16) :
    Calls Try.prog 48 #[.pointer (some ⟨p, 0, none⟩), .int .u32 no, .int .u32 fi, .int .i64 (m : Nat), .slice si K ci] w (MkPost w no fi K m I (.int .i64 0)) := by
  have hz := zeroGG
  have hph := Lib.hid hp
  have hpl := hp.lt
  have hsh := Lib.hid hs
  have hIh := Lib.hid hI
  have hB0 := below_one w (.cells #[.int .u32 0, .int .u32 0, .int .i64 0, .int .i64 0, .slice none 0 0] 70)
  have b0 := last_block0 w (.cells #[.int .u32 0, .int .u32 0, .int .i64 0, .int .i64 0, .slice none 0 0] 70) _ rfl
  have d0 : decide ((16 : Int) < (K : Int)) = false := decide_eq_false (by omega)
  have d1 : decide (16 < K) = false := decide_eq_false (by omega)
  have d2 : decide ((16 : Int) < (m : Int)) = false := decide_eq_false (by omega)
  have d3 : decide (16 < m) = false := decide_eq_false (by omega)
  have kcd := Lib.hid (fun y (hy : IsGf y p) => s_code p K m y hy h0 (by omega))
  have ken := Lib.hid (fun c y (s : Option Addr) (cap : Nat) (h1 : CodeAt y c p K m) (h2 : IsGf y p) (h3 : RowsAt y s K 2 (inV I)) => s_encode c p K m 2 s cap (inV I) y h1 h2 h3 (inV_bd I hI) h0 (by omega) (by omega))
  have kpt := Lib.hid (fun i y => w_put16 (I i) y (hI i))
  have hin : Hid (∀ i, put16F (I i) = inV I i) := hide (fun i => by funext t; unfold inV; rfl)
  have hgr : Hid (catV K (inV I) (paF K (inV I)) = grD K I) := hide (by unfold grD; rfl)
  clear hp hs hI
  go_enter Try.func48, Try.ntmps48
  go_upto_region 1 with (fail)
  generalize World.alloc w _ = W at *
  have hwW : w.heap.size < W.heap.size := (Array.getElem?_eq_some_iff.1 b0).1
  have b0h := Lib.hid b0
  have hB0h := Lib.hid hB0
  clear b0 hB0
  go_wp2_with fail
  refine (kcd.out W (hph.out.below hB0h.out hpl)).mono ?_
  rintro e w2 ⟨c, rfl, hc, hcd, hb2⟩
  have hcdh := Lib.hid hcd
  have hB2 := Lib.hid (hB0h.out.trans (hb2.mono (by omega)))
  have b2 := Lib.hid ((hb2.block _ hwW).trans b0h.out)
  have hsz2 := hb2.size
  clear hcd hb2
  go_upto_region 7 with (fail)
  obtain ⟨x0, x1, x2⟩ := boxed w2 #[.int .u32 0, .int .u32 0, .int .i64 0, .int .i64 0, .slice none 0 0] #[.int .u32 no, .int .u32 fi, .int .i64 (K : Nat), .int .i64 (m : Nat), .slice none 0 0] 70
  have hM0 : Hid (MkAt ((w2.alloc (.cells #[.int .u32 0, .int .u32 0, .int .i64 0, .int .i64 0, .slice none 0 0] 70)).setRow w2.heap.size #[.int .u32 no, .int .u32 fi, .int .i64 (K : Nat), .int .i64 (m : Nat), .slice none 0 0]) w2 w2.heap.size 70 no fi K m (.slice none 0 0) 0 2 (inV I)) := hide ⟨x0, OwnS.nil _ _ _ _, x2, Nat.le_refl _⟩
  generalize World.setRow (World.alloc w2 _) _ _ = X at *
  obtain ⟨q, hq⟩ : ∃ q, w2.heap.size = q := ⟨_, rfl⟩
  have hqw : w.heap.size < q := by omega
  rw [hq] at hM0 ⊢
  have hqh := Lib.hid hq
  have hcl : Hid (∀ y, Below w2.heap.size w2 y → CodeAt y c p K m) := hide (fun y hy => by
    obtain ⟨g, h1, h2⟩ := hcdh.out
    exact ⟨g, (hy.block c ((Array.getElem?_eq_some_iff.1 h1).1)).trans h1, h2.below hy⟩)
  have hbl : Hid (∀ y, Below w2.heap.size w2 y → Below w.heap.size w y) := hide (fun y hy => hB2.out.trans (hy.mono (by omega)))
  have hb10 : Hid (∀ y, Below w2.heap.size w2 y → blk y w.heap.size = some (.cells #[.int .u32 0, .int .u32 0, .int .i64 0, .int .i64 0, .slice none 0 0] 70 (0, 0))) := hide (fun y hy => (blk_below hy (by omega)).trans (blk_of b2.out))
  clear x0 x1 x2 hq
  go_upto_region 8 with (fail)
  go_loopw [46] (fun v46 wr => ∃ (i : Nat) (v : Value), i ≤ K ∧ v46 = .int .i64 (i : Nat) ∧ Hid (MkAt wr w2 q 70 no fi K m v i 2 (inV I))) (fun v46 _ => K - (intOf v46).toNat)
  case atStart => exact ⟨0, _, by omega, rfl, hM0⟩
  case round =>
    obtain ⟨i, v, hi, rfl, hM⟩ := hrel
    clear hM0
    by_cases hiK : i < K
    · have i1 : (i : Int) < (K : Int) := by omega
      obtain ⟨bi, oi, rfl, ci0⟩ := hsh.out i hiK
      have ci : wr.cell? ⟨bi, oi + i, none⟩ = some (.int .u16 (I i : Nat)) := ((hbl.out wr hM.out.lo).cell (cell_block_lt ci0)).trans ci0
      have hx := hIh.out i
      have hkpt := Lib.hid (kpt.out i)
      rw [hin.out i] at hkpt
      obtain ⟨xi, hxi⟩ : ∃ xi, I i = xi := ⟨_, rfl⟩
      rw [hxi] at ci hx hkpt
      clear ci0 hxi
      go_upto_region 10 with (fail)
      have hLd : Hid (Below wr.heap.size wr wr.drew) := hide (below_drewN (Below.refl _ _) 1)
      obtain ⟨sv, cv, rfl⟩ := hM.out.own.form
      refine h_begin 8 (fun _ => True) rfl (by kernel_rfl) trivial ?_
      have hHeld : (fun _ : World => True) wr.drew := trivial
      clear ci
      first
        | (refine h_run (i := 0) (v := ?_) hHeld rfl (by kernel_rfl) (by kernel_rfl) (by kernel_rfl) ?_ ?_ ?_
           rotate_left
           · rfl
           · (intro x hSx; (try dsimp only at hSx); go_simp <;> with_reducible rfl)
           simp only [Act.put, List.setIfInBounds_toArray, List.set_cons_zero, List.set_cons_succ])
        | (refine h_skip (i := 0) hHeld rfl (by kernel_rfl) (by kernel_rfl) (by kernel_rfl) ?_ ?_
           · rfl
           simp only [Act.put, List.setIfInBounds_toArray, List.set_cons_zero, List.set_cons_succ])
      first
        | (refine h_run (i := 2) (v := ?_) hHeld rfl (by kernel_rfl) (by kernel_rfl) (by kernel_rfl) ?_ ?_ ?_
           rotate_left
           · rfl
           · (intro x hSx; (try dsimp only at hSx); go_simp <;> with_reducible rfl)
           simp only [Act.put, List.setIfInBounds_toArray, List.set_cons_zero, List.set_cons_succ])
        | (refine h_skip (i := 2) hHeld rfl (by kernel_rfl) (by kernel_rfl) (by kernel_rfl) ?_ ?_
           · rfl
           simp only [Act.put, List.setIfInBounds_toArray, List.set_cons_zero, List.set_cons_succ])
      clear hHeld
      refine h_lcb (i := 1) (j := 3) (k := 4) (f := 51) (args := #[.slice none 0 0, .int .u16 (xi : Nat)]) (.slice sv i cv) (fun u => .cells #[u] 71) (fun x => Below wr.heap.size wr x) (fun u x => SlR x w2.heap.size 2 (inV I i) u) [1, 3] [1, 4]
        hLd.out (fun _ _ => trivial) (fun x u h => h.alloc h.size _) ?_ rfl rfl rfl (by kernel_rfl) (by decide) (by kernel_rfl) (by kernel_rfl) (by kernel_rfl) (by decide) (by kernel_rfl) (by kernel_rfl) (fun _ => rfl) (fun _ => rfl) (fun _ => rfl) (fun x hx => ?_) (fun x u hx => ?_) (fun x u b hx => ?_) ?_ ?_ (fun x u hx hu => ?_) (fun x u hx hu => ?_) (fun x u hx hu => ?_) rfl rfl (fun _ _ => rfl) (fun _ _ => rfl) ?_
      · refine (hkpt.out wr.drew).mono ?_
        rintro e x ⟨u, rfl, hu, hb⟩
        exact ⟨u, rfl, hLd.out.trans (hb.mono hLd.out.size), hu.base hM.out.lo.size⟩
      · have c4 := (hM.out.below hx).cell.1
        clear hx
        go_simp <;> with_reducible rfl
      · have c4 := (hM.out.below hx).cell.1
        clear hx
        go_simp <;> with_reducible rfl
      · have c4 := (hM.out.below hx).cell.1
        clear hx
        go_simp <;> with_reducible rfl
      · go_simp <;> with_reducible rfl
      · go_simp <;> with_reducible rfl
      · obtain ⟨gu, ku, rfl⟩ := hu.form
        clear hx hu
        go_simp <;> with_reducible rfl
      · obtain ⟨gu, ku, rfl⟩ := hu.form
        clear hx hu
        go_simp <;> with_reducible rfl
      · obtain ⟨gu, ku, rfl⟩ := hu.form
        clear hx hu
        go_simp <;> with_reducible rfl
      intro x u hx hu
      simp only [Act.put, List.setIfInBounds_toArray, List.set_cons_zero, List.set_cons_succ]
      have hMx := hM.out.below hx
      obtain ⟨v', w6, hr, ho6, hg6⟩ := run_snocS x _ w2.heap.size i 2 (inV I) u 68 hMx.own hu (by omega) hMx.lo.size
      refine h_value (i := 5) (v := v') (w' := w6) (fun _ => True) (fun _ h => h) rfl (by kernel_rfl) rfl ?_ trivial ?_
      · exact exec_appendM (.tmp 51) (.tmp 54) _ _ rfl rfl rfl hr
      simp only [Act.put, List.setIfInBounds_toArray, List.set_cons_zero, List.set_cons_succ]
      have hst := hMx.step (by decide) hg6 ho6
      have c6 : w6.cell? ⟨q, 4, none⟩ = some (.slice sv i cv) := (cell_of_block hst.1).trans rfl
      have f6 := frozen_of_row w6 q 4 _ _ hst.1
      have hP := Lib.hid (hMx.put (by decide) (by decide) hg6 ho6)
      obtain ⟨s6, cap6, rfl⟩ := ho6.form
      clear hMx hr ho6 hg6 hst hx hu
      have hHeld : (fun _ : World => True) w6 := trivial
      first
        | (refine h_run (i := 6) (v := ?_) hHeld rfl (by kernel_rfl) (by kernel_rfl) (by kernel_rfl) ?_ ?_ ?_
           rotate_left
           · rfl
           · (intro x hSx; (try dsimp only at hSx); go_simp <;> with_reducible rfl)
           simp only [Act.put, List.setIfInBounds_toArray, List.set_cons_zero, List.set_cons_succ])
        | (refine h_skip (i := 6) hHeld rfl (by kernel_rfl) (by kernel_rfl) (by kernel_rfl) ?_ ?_
           · rfl
           simp only [Act.put, List.setIfInBounds_toArray, List.set_cons_zero, List.set_cons_succ])
      clear hHeld
      refine h_write (i := 7) (w' := w6.setCell ⟨q, 4, none⟩ (.slice s6 (i + 1) cap6)) (fun _ => True) (fun _ h => h) rfl (by kernel_rfl) rfl ?_ trivial ?_
      · go_simp <;> with_reducible rfl
      refine h_done (by kernel_rfl) ?_
      clear c6 f6
      go_wp2_with fail
      go_roundw
      case rel => exact ⟨i + 1, _, by omega, by go_num, hP⟩
      case measure => simp [intOf]; omega
    · obtain rfl : i = K := by omega
      have i1 : decide ((i : Int) < (i : Int)) = false := by simp
      obtain ⟨sv, cv, rfl, hrw, _⟩ := hM.out.own.open
      have hrwh := Lib.hid hrw
      have c4 := hM.out.cell.1
      have hsz := hM.out.lo.size
      clear hrw
      go_wp2_with fail
      refine (ken.out c wr sv cv (hcl.out wr hM.out.lo) (hph.out.below (hbl.out wr hM.out.lo) hpl) hrwh.out).mono ?_
      rintro e w5 ⟨g5, rfl, hg5, ⟨W0, D, hap⟩, hb5⟩
      obtain ⟨A, hA1, hA2⟩ := hap.rowsS (by decide)
      have hA1h := Lib.hid hA1
      have hA2h := Lib.hid (fun j (hj : j < m) => (hA2 j hj).base (show w2.heap.size ≤ g5 by omega))
      have hM5 := Lib.hid (hM.out.below hb5)
      have c5 := hM5.out.cell.1
      have hs5 := hM5.out.lo.size
      clear hap hA1 hA2 hb5 c4
      go_upto_region 16 with (at_builtin; refine wpList_catS rfl (.tmp 70) (.tmp 71) rfl (.slice sv i cv) w2.heap.size i 2 m m (inV I) (paF i (inV I)) g5 A rfl rfl hM5.out.own hA1h.out hA2h.out (by omega) hs5 ?_; intro v' w6 ho6 hg6; have hst := hM5.out.step (by decide) hg6 ho6; have c6 : w6.cell? ⟨q, 4, none⟩ = some (.slice sv i cv) := (cell_of_block hst.1).trans rfl; have f6 := frozen_of_row w6 q 4 _ _ hst.1; have hP := Lib.hid (hM5.out.put (by decide) (by decide) hg6 ho6); obtain ⟨s6, cap6, rfl⟩ := ho6.form; clear ho6 hg6 hst)
      clear c5 c6 f6
      generalize World.setCell w6 _ _ = Y at *
      have bq := blk_of hP.out.b
      have b10 := hb10.out Y hP.out.lo
      have hqne : w.heap.size ≠ q := by omega
      go_wp2_with fail
      have hown := hP.out.own
      rw [hgr.out] at hown
      have b10h := blk_heap b10
      have hfo : OwnS (Y.setRow w.heap.size #[.int .u32 no, .int .u32 fi, .int .i64 (i : Nat), .int .i64 (m : Nat), .slice s6 (i + m) cap6]) w.heap.size (.slice s6 (i + m) cap6) (i + m) 2 (grD i I) := by
        refine OwnS.base (b := w2.heap.size) (hown.kept (row := some w.heap.size) (only_setRow (only_refl Y _) (.inl rfl) _) ?_ (fun r hr => ?_)) (by omega)
        · rcases hv : (Value.slice s6 (i + m) cap6).ownBlock with _ | r
          · exact .inl rfl
          · refine .inr (fun e => ?_)
            injection e with e
            have := (hown.lt r hv).1
            have := hqh.out
            omega
        · injection hr with hr
          subst hr
          exact ⟨_, _, _, b10h, by decide⟩
      refine bodyPost_ret (v := .tuple #[.agg #[.int .u32 no, .int .u32 fi, .int .i64 (i : Nat), .int .i64 (m : Nat), .slice s6 (i + m) cap6], .int .i64 0]) (results_row_tmp rfl _ _ w.heap.size 70 _ (0, 0) _ _ rfl rfl (setRow_heap _ _ _ _ _ _ b10h) Try.underlying70 rfl gg_info) rfl ⟨s6, cap6, rfl, hfo, below_setRow (hbl.out Y hP.out.lo) (Nat.le_refl _) _⟩
end Go.Proofs.Ytmfagdbocidfjaa
