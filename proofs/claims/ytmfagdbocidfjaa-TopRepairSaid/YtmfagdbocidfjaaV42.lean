import Derived.Test.YtmfagdbocidfjaaV41
import Derived.Test.YtmfagdbocidfjaaV18
import Derived.Test.YtmfagdbocidfjaaV25
import Derived.Deep.DeepCutAuto
/- TopRepair: what the tops of codes hang on is there. Conditions: none. -/
namespace Go.Proofs.Ytmfagdbocidfjaa
open Go.RowKit
attribute [local irreducible] gexp gtbl glog rmul rinv rpow zexp mixF blk wLoad wLoadRes loadAns wStore wStoreRes storeAns Plain flF BRow MRow MAt By IsGf ivS rsF mlF RowsAt paF OwnS SlR dtF inV grD WinAt
attribute [local go_sem ↓] ld_g0 sto_g0
attribute [local go_sem] ld_g sto_g loadAns_some storeAns_some gg_size gg_plain blk_alloc_if blk_setRow_if blk_drew_at blk_drewN_at rowPut_some blk_setCell_if cellPut_some
def twoI (j : Nat) : Nat := if j = 0 then 5 else 6
set_option maxRecDepth 100000 in
set_option maxHeartbeats 4000000 in
theorem tr_coded (w : World) : Calls Try.prog 17 #[] w (fun e w' => e = .returned (.bool true) ∧ Below w.heap.size w w') := by
  have hz := zeroGG
  go_enter Try.func17, Try.ntmps17
  go_wp2_with fail
  refine (gf_new_below w).mono ?_
  rintro e w1 ⟨rfl, hp, hb1⟩
  obtain ⟨p, hpe⟩ : ∃ p, w.heap.size = p := ⟨_, rfl⟩
  rw [hpe] at hp ⊢
  have hB1 := Lib.hid hb1
  have hph := Lib.hid hp
  clear hb1 hp
  go_upto_region 1 with (fail)
  go_wp2_with fail
  have hBa : Hid (Below w1.heap.size w1 (w1.alloc (.cells #[.int .u16 5, .int .u16 6] 34))) := hide ((Below.refl _ _).alloc (Nat.le_refl _) _)
  have hnew : (w1.alloc (.cells #[.int .u16 5, .int .u16 6] 34)).heap[w1.heap.size]? = some (.cells #[.int .u16 5, .int .u16 6] 34 (0, 0)) := Array.getElem?_push_size (xs := w1.heap)
  have hza : ZAt (w1.alloc (.cells #[.int .u16 5, .int .u16 6] 34)) .u16 (some ⟨w1.heap.size, 0, none⟩) 2 (fun i => (twoI i : Nat)) := fun j hj => ⟨w1.heap.size, 0, rfl, by
    rw [cell_of_block hnew]
    rcases j with _ | _ | j
    · rfl
    · rfl
    · omega⟩
  refine (s_make p 2 1 0 0 twoI (some ⟨w1.heap.size, 0, none⟩) 2 _ (hph.out.below hBa.out hph.out.lt) hza (fun j => by unfold twoI; split <;> omega) (by omega) (by omega) (by omega)).mono ?_
  rintro e w2 ⟨s, cap, rfl, _, hb2⟩
  have hB2 : Hid (Below w.heap.size w w2) := hide (hB1.out.trans ((hBa.out.trans (hb2.mono hBa.out.size)).mono (by rw [hpe]; have := hB1.out.size; omega)))
  simp only [Nat.reduceAdd]
  clear hb2 hza hnew hBa
  go_upto_region 2 with (fail)
  have hB3 := Lib.hid (below_setRow (hB2.out.alloc hB2.out.size (.cells #[.int .u32 0, .int .u32 0, .int .i64 0, .int .i64 0, .slice none 0 0] 70)) hB2.out.size #[.int .u32 0, .int .u32 0, .int .i64 2, .int .i64 1, .slice s 3 cap])
  have hq3 := setRow_heap (w2.alloc (.cells #[.int .u32 0, .int .u32 0, .int .i64 0, .int .i64 0, .slice none 0 0] 70)) w2.heap.size _ #[.int .u32 0, .int .u32 0, .int .i64 2, .int .i64 1, .slice s 3 cap] 70 (0, 0) (last_block0 w2 _ _ rfl)
  have c4 := (cell_of_block hq3).trans (show #[Value.int .u32 0, .int .u32 0, .int .i64 2, .int .i64 1, .slice s 3 cap][4]? = some (.slice s 3 cap) from rfl)
  generalize World.setRow (World.alloc w2 _) _ _ = W at *
  clear hq3
  go_wp2_with fail
  refine (gf_new_below W).mono ?_
  rintro e w4 ⟨rfl, hp4, hb4⟩
  have hB4 := Lib.hid (hB3.out.trans (hb4.mono hB3.out.size))
  clear hb4 hp4 c4
  go_wp2_with fail
  refine (re_new _ w4).mono ?_
  rintro e w5 ⟨rfl, _, hb5⟩
  have hB5 := Lib.hid (hB4.out.trans (hb5.mono hB4.out.size))
  clear hb5
  go_wp2_with fail
  go_ret
  exact ⟨rfl, hB5.out⟩
end Go.Proofs.Ytmfagdbocidfjaa

/- TopRepair: a list of groups. Conditions: what the blocks hold. -/
namespace Go.Proofs.Ytmfagdbocidfjaa
open Go.RowKit
/-- how many inputs group j holds -/
def kOf (S la j : Nat) : Nat := min S (la - j * S)
/-- a list of groups as cells -/
def gpC (S m la : Nat) (D cp : Nat → Nat) : Nat → List Value
  | 0 => []
  | n + 1 => gpC S m la D cp n ++ [.int .u32 (n : Nat), .int .u32 (n * S : Nat), .int .i64 (kOf S la n : Nat), .int .i64 (m : Nat), .slice (some ⟨D n, 0, none⟩) (kOf S la n + m) (cp n)]
set_option maxRecDepth 100000 in
theorem gpC_len (S m la : Nat) (D cp : Nat → Nat) : ∀ n, (gpC S m la D cp n).length = n * 5
  | 0 => rfl
  | n + 1 => by
    unfold gpC
    rw [List.length_append, gpC_len S m la D cp n]
    show n * 5 + 5 = (n + 1) * 5
    omega
set_option maxRecDepth 100000 in
theorem gpC_congr (S m la : Nat) (D cp D' cp' : Nat → Nat) : ∀ n, (∀ j, j < n → D j = D' j ∧ cp j = cp' j) → gpC S m la D cp n = gpC S m la D' cp' n
  | 0, _ => rfl
  | n + 1, h => by
    unfold gpC
    rw [gpC_congr S m la D cp D' cp' n (fun j hj => h j (by omega)), (h n (by omega)).1, (h n (by omega)).2]
set_option maxRecDepth 100000 in
theorem gpC_get (S m la : Nat) (D cp : Nat → Nat) : ∀ n j t, j < n → t < 5 → (gpC S m la D cp n)[j * 5 + t]? = [Value.int .u32 (j : Nat), .int .u32 (j * S : Nat), .int .i64 (kOf S la j : Nat), .int .i64 (m : Nat), .slice (some ⟨D j, 0, none⟩) (kOf S la j + m) (cp j)][t]?
  | 0, j, t, h, _ => by omega
  | n + 1, j, t, h, ht => by
    have hl := gpC_len S m la D cp n
    unfold gpC
    by_cases hj : j < n
    · rw [List.getElem?_append_left (by omega)]
      exact gpC_get S m la D cp n j t hj ht
    · obtain rfl : j = n := by omega
      rw [List.getElem?_append_right (by omega), hl, show j * 5 + t - j * 5 = t by omega]
/-- groups that were put together -/
def GpAt (w : World) (lo : Nat) (v : Value) (n S m la : Nat) (In D cp : Nat → Nat) : Prop :=
  VAt w lo 70 5 v n (gpC S m la D cp n) ∧ ∀ j, j < n → OwnS w lo (.slice (some ⟨D j, 0, none⟩) (kOf S la j + m) (cp j)) (kOf S la j + m) 2 (grD (kOf S la j) (fun t => In (j * S + t)))
set_option maxRecDepth 100000 in
theorem GpAt.below {w w' : World} {lo : Nat} {v : Value} {n S m la : Nat} {In D cp : Nat → Nat} (h : GpAt w lo v n S m la In D cp) (hb : Below w.heap.size w w') : GpAt w' lo v n S m la In D cp :=
  ⟨h.1.below hb, fun j hj => (h.2 j hj).below hb⟩
set_option maxRecDepth 100000 in
theorem info_gp : (Try.prog.info? 70).map (fun i => (i.zero, i.size, i.bytes)) = some (some (.agg #[.int .u32 0, .int .u32 0, .int .i64 0, .int .i64 0, .slice none 0 0]), 5, 48) := by kernel_rfl
set_option maxRecDepth 100000 in
theorem OwnS.other {W W' : World} {lo m n : Nat} {v : Value} {V : Nat → Nat → Nat} {row : Option Nat} (h : OwnS W lo v m n V) (hg : W.grownBy W' row) (hr : ∀ b, row = some b → ∃ C T', W.heap[b]? = some (.cells C T' (0, 0)) ∧ T' ≠ 5 ∧ T' ≠ 71) : OwnS W' lo v m n V := by
  refine h.kept hg ?_ (fun p hp => ?_)
  · rcases e : v.ownBlock with _ | b
    · exact .inl rfl
    · refine .inr (fun e2 => ?_)
      obtain ⟨C, T', h1, _, h3⟩ := hr b e2.symm
      obtain ⟨A, h4, _⟩ := h
      obtain ⟨cur, fr, h5⟩ := own_type h4 b e
      rw [h1] at h5
      injection h5 with h5
      injection h5 with _ h6
      exact h3 h6
  · obtain ⟨C, T', h1, h2, _⟩ := hr p hp
    exact ⟨C, T', _, h1, h2⟩
set_option maxRecDepth 100000 in
theorem OwnS.ptr {w : World} {lo n c m k : Nat} {s : Option Addr} {V : Nat → Nat → Nat} (h : OwnS w lo (.slice s n c) m k V) (h0 : 0 < m) : ∃ g, s = some ⟨g, 0, none⟩ := by
  obtain ⟨Af, h3, _⟩ := h
  rcases h3.2 with ⟨_, h⟩ | ⟨g, c1, _, h, _⟩
  · omega
  · injection h with h
    exact ⟨g, h⟩
set_option maxRecDepth 100000 in
/-- append(out, g) -/
theorem gp_more {w : World} {lo : Nat} {v : Value} {j S m la : Nat} {In D cp : Nat → Nat} (h : GpAt w lo v j S m la In D cp) (hlo : lo ≤ w.heap.size) (hj : j ≤ 1000) (g c : Nat) (ho : OwnS w lo (.slice (some ⟨g, 0, none⟩) (kOf S la j + m) c) (kOf S la j + m) 2 (grD (kOf S la j) (fun t => In (j * S + t)))) (ty : TypeId) :
    ∃ v' w' D' cp', (Builtin.append_ #[58, 58] ty #[v, .slice (some ⟨w.heap.size, 0, none⟩) 1 1]).run Try.prog (w.alloc (.cells #[.int .u32 (j : Nat), .int .u32 (j * S : Nat), .int .i64 (kOf S la j : Nat), .int .i64 (m : Nat), .slice (some ⟨g, 0, none⟩) (kOf S la j + m) c] 70)) = .ok v' w' ∧ GpAt w' lo v' (j + 1) S m la In D' cp' ∧ Below lo w w' := by
  have hBb : Below w.heap.size w (w.alloc (.cells #[.int .u32 (j : Nat), .int .u32 (j * S : Nat), .int .i64 (kOf S la j : Nat), .int .i64 (m : Nat), .slice (some ⟨g, 0, none⟩) (kOf S la j + m) c] 70)) := (Below.refl _ _).alloc (Nat.le_refl _) _
  have hlast : (w.alloc (.cells #[.int .u32 (j : Nat), .int .u32 (j * S : Nat), .int .i64 (kOf S la j : Nat), .int .i64 (m : Nat), .slice (some ⟨g, 0, none⟩) (kOf S la j + m) c] 70)).heap[w.heap.size]? = some (.cells #[.int .u32 (j : Nat), .int .u32 (j * S : Nat), .int .i64 (kOf S la j : Nat), .int .i64 (m : Nat), .slice (some ⟨g, 0, none⟩) (kOf S la j + m) c] 70 (0, 0)) := Array.getElem?_push_size (xs := w.heap)
  generalize w.alloc (.cells #[.int .u32 (j : Nat), .int .u32 (j * S : Nat), .int .i64 (kOf S la j : Nat), .int .i64 (m : Nat), .slice (some ⟨g, 0, none⟩) (kOf S la j + m) c] 70) = wb at *
  have hb := h.below hBb
  have hob := ho.below hBb
  obtain ⟨v8, W8, hr8, hv8, hg8, hf8, _⟩ := v_app (P := Try.prog) (S := 58) (T := 70) Try.underlying58 info_gp rfl (by decide) (by decide) hb.1 (Nat.le_trans hlo hBb.size) ⟨w.heap.size, 0, none⟩ 1 1 [.int .u32 (j : Nat), .int .u32 (j * S : Nat), .int .i64 (kOf S la j : Nat), .int .i64 (m : Nat), .slice (some ⟨g, 0, none⟩) (kOf S la j + m) c] rfl (fun t u hj => by
    rw [Addr.add_lit, cell_of_block hlast, Nat.zero_add]
    rcases t with _ | _ | _ | _ | _ | t
    · exact hj
    · exact hj
    · exact hj
    · exact hj
    · exact hj
    · simp at hj) (fun u hu => by
    simp at hu
    rcases hu with rfl | rfl | rfl | rfl | rfl <;> rfl) (by omega) ty
  have hsx : gpC S m la D cp j ++ [.int .u32 (j : Nat), .int .u32 (j * S : Nat), .int .i64 (kOf S la j : Nat), .int .i64 (m : Nat), .slice (some ⟨g, 0, none⟩) (kOf S la j + m) c] = gpC S m la (fun t => if t = j then g else D t) (fun t => if t = j then c else cp t) (j + 1) := by
    have e := gpC_congr S m la D cp (fun t => if t = j then g else D t) (fun t => if t = j then c else cp t) j (fun t ht => ⟨(if_neg (by omega)).symm, (if_neg (by omega)).symm⟩)
    rw [gpC, e]
    simp
  rw [hsx] at hv8
  have hty : ∀ b, v.ownBlock = some b → ∃ C T', wb.heap[b]? = some (.cells C T' (0, 0)) ∧ T' ≠ 5 ∧ T' ≠ 71 := fun b e => by
    obtain ⟨_, C, hC⟩ := hb.1.lt b e
    exact ⟨C, _, hC, by decide, by decide⟩
  refine ⟨v8, W8, _, _, hr8, ⟨hv8, fun t ht => ?_⟩, below_grown (hBb.mono hlo) hlo hg8 (fun b e => (hb.1.lt b e).1)⟩
  by_cases e : t = j
  · subst e
    simp only [if_true]
    exact hob.other hg8 hty
  · simp only [if_neg e]
    exact (hb.2 t (by omega)).other hg8 hty
end Go.Proofs.Ytmfagdbocidfjaa

/- TopRepair: the groups of what is sent. Conditions: what the inputs read as. -/
namespace Go.Proofs.Ytmfagdbocidfjaa
open Go.RowKit
attribute [local irreducible] gexp gtbl glog rmul rinv rpow zexp mixF blk wLoad wLoadRes loadAns wStore wStoreRes storeAns Plain flF BRow MRow MAt By IsGf ivS rsF mlF RowsAt paF OwnS SlR dtF inV grD WinAt gpC
attribute [local go_sem ↓] ld_g0 sto_g0
attribute [local go_sem] ld_g sto_g loadAns_some storeAns_some gg_size gg_plain blk_alloc_if blk_setRow_if blk_drew_at blk_drewN_at rowPut_some blk_setCell_if cellPut_some
def GpsPost (w : World) (la S m : Nat) (In : Nat → Nat) (e : Ending) (w' : World) : Prop :=
  ∃ v n D cp, e = .returned (.tuple #[v, .bool true]) ∧ GpAt w' w.heap.size v n S m la In D cp ∧ la ≤ n * S ∧ (∀ j, j < n → j * S < la) ∧ Below w.heap.size w w'
def GpsRel (w : World) (la S m : Nat) (In : Nat → Nat) (v4 v5 : Value) (wr : World) : Prop :=
  ∃ j D cp, v5 = .int .i64 (j * S : Nat) ∧ GpAt wr w.heap.size v4 j S m la In D cp ∧ (∀ i, i < j → i * S < la) ∧ Below w.heap.size w wr
set_option maxRecDepth 100000 in
set_option maxHeartbeats 4000000 in
theorem tr_groups (a : Option Addr) (la ca S m : Nat) (b : Option Addr) (lb cb : Nat) (In : Nat → Nat) (w : World) (ha : ZAt w .u16 a la (fun i => (In i : Nat))) (hIn : ∀ i, In i < 65536) (hca : la ≤ ca) (hS1 : 1 ≤ S) (hS8 : S ≤ 8) (hm : m ≤ 6) (hla : la ≤ 60) :
    Calls Try.prog 18 #[.agg #[.slice a la ca, .int .i64 (S : Nat), .int .i64 (m : Nat), .slice b lb cb]] w (GpsPost w la S m In) := by
  have hzg := zeroGG
  have hah := Lib.hid ha
  have hInh := Lib.hid hIn
  obtain ⟨z, hz⟩ : ∃ z, w.heap.size = z := ⟨_, rfl⟩
  obtain ⟨W, hW⟩ : ∃ W, w.alloc (.cells #[.slice a la ca, .int .i64 (S : Nat), .int .i64 (m : Nat), .slice b lb cb] 57) = W := ⟨_, rfl⟩
  have hBW : Hid (Below w.heap.size w W) := hide (hW ▸ (Below.refl _ _).alloc (Nat.le_refl _) _)
  have hblk : Hid (W.heap[z]? = some (.cells #[.slice a la ca, .int .i64 (S : Nat), .int .i64 (m : Nat), .slice b lb cb] 57 (0, 0))) := hide (by rw [← hW, ← hz]; exact Array.getElem?_push_size (xs := w.heap))
  have hzW : z < W.heap.size := (Array.getElem?_eq_some_iff.1 hblk.out).1
  have hcell : Hid (∀ y i v, Below W.heap.size W y → (#[.slice a la ca, .int .i64 (S : Nat), .int .i64 (m : Nat), .slice b lb cb] : Array Value)[i]? = some v → y.cell? ⟨z, i, none⟩ = some v) := hide (fun y i v hy h => by
    have h2 := (hy.block z hzW).trans hblk.out
    exact (cell_of_block h2).trans h)
  have hWh := Lib.hid hW
  have hzh := Lib.hid hz
  clear ha hIn hW hz hblk
  go_enter Try.func18, Try.ntmps18
  go_upto_region 3 with (fail)
  rw [hWh.out, hzh.out]
  go_loopw [4, 5, 6, 7, 8] (fun v4 v5 v6 v7 v8 wr => GpsRel W la S m In v4 v5 wr) (fun _ v5 _ _ _ _ => la - (intOf v5).toNat)
  case atStart => exact ⟨0, fun _ => 0, fun _ => 0, by simp, ⟨by unfold gpC; exact VAt.nil _ _ _ _, fun j hj => absurd hj (by omega)⟩, fun i hi => absurd hi (by omega), Below.refl _ _⟩
  case round =>
    obtain ⟨j, D, cp, rfl, hg, hjs, hB⟩ := hrel
    have hgh := Lib.hid hg
    have hjsh := Lib.hid hjs
    have hBh := Lib.hid hB
    obtain ⟨A, hA⟩ : ∃ A, j * S = A := ⟨_, rfl⟩
    have hAh := Lib.hid hA
    have c0 := hcell.out wr 0 _ hBh.out rfl
    have c1 := hcell.out wr 1 _ hBh.out rfl
    have c2 := hcell.out wr 2 _ hBh.out rfl
    rw [hA]
    clear hg hjs hB hA
    by_cases hlt : A < la
    · have i1 : (A : Int) < (la : Int) := by omega
      have iw1 : IntKind.i64.wrap ((A : Int) + (S : Int)) = ((A + S : Nat) : Int) := by rw [IntWalk.i64_in _ (by omega)]; omega
      obtain ⟨AS, hAS⟩ : ∃ AS, A + S = AS := ⟨_, rfl⟩
      rw [hAS] at iw1
      have hASh := Lib.hid hAS
      clear hAS
      go_upto_region 5 with (fail)
      obtain ⟨K, hK⟩ : ∃ K, kOf S la j = K := ⟨_, rfl⟩
      have hKd : K = min S (la - A) := by rw [← hK]; unfold kOf; rw [hAh.out]
      have hK1 : 1 ≤ K := by omega
      have hK8 : K ≤ 8 := by omega
      have hKA : A + K ≤ la := by omega
      obtain ⟨E, hE⟩ : ∃ E, A + K = E := ⟨_, rfl⟩
      have hKh := Lib.hid hK
      have hEm : min ((AS : Nat) : Int) (la : Int) = (E : Int) := by have := hASh.out; omega
      have hEmN : min AS la = E := by have := hASh.out; omega
      go_cut [6] (fun v6 wx => v6 = .int .i64 (E : Nat) ∧ wx = wr)
      case first =>
        go_wp2_with fail
        all_goals
          go_meet
          exact ⟨by first | rfl | (congr 1; omega) | (have := hASh.out; congr 1; omega), rfl⟩
      case rest =>
        obtain ⟨rfl, hX⟩ := hcut
        rw [hX]
        clear hX hKd
        obtain ⟨ab, ao, rfl, _⟩ := hah.out A hlt
        clear hEm hEmN iw1 hK
        have hEA : (A : Int) ≤ (E : Int) := by omega
        have hEc : (E : Int) ≤ (ca : Int) := by omega
        have hAc : (A : Int) < (ca : Int) := by omega
        have hAc2 : ¬ ca = A := by omega
        have hjA : j ≤ A := by rw [← hAh.out]; exact Nat.le_mul_of_pos_right _ hS1
        have hjw : IntKind.u32.wrap (j : Int) = (j : Int) := IntWalk.u32_in _ (by omega)
        have hAw : IntKind.u32.wrap (A : Int) = (A : Int) := IntWalk.u32_in _ (by omega)
        obtain ⟨s4, k4, rfl, _⟩ := hgh.out.1.form
        go_upto_region 6 with (fail)
        have hBd : Hid (Below wr.heap.size wr wr.drew) := hide (below_drewN (Below.refl _ _) 1)
        have hBr := hBh.out
        have hSS : Hid (∀ y, Below wr.heap.size wr y → (fun y : World => y.cell? ⟨z, 0, none⟩ = some (.slice (some ⟨ab, ao, none⟩) la ca) ∧ y.cell? ⟨z, 2, none⟩ = some (.int .i64 (m : Nat))) y) := hide (fun y hy => ⟨hcell.out y 0 _ (hBr.trans (hy.mono hBr.size)) rfl, hcell.out y 2 _ (hBr.trans (hy.mono hBr.size)) rfl⟩)
        clear hBr
        go_cut [7, 8] (fun v7 v8 wx => ∃ (q g c : Nat), v7 = .pointer (some ⟨q, 0, none⟩) ∧ v8 = .int .i64 0 ∧ Hid (wx.heap[q]? = some (.cells #[.int .u32 (j : Nat), .int .u32 (A : Nat), .int .i64 (K : Nat), .int .i64 (m : Nat), .slice (some ⟨g, 0, none⟩) (K + m) c] 70 (0, 0))) ∧ Hid (OwnS wx wr.heap.size (.slice (some ⟨g, 0, none⟩) (K + m) c) (K + m) 2 (grD K (fun t => In (A + t)))) ∧ Hid (Below wr.heap.size wr wx))
        case first =>
          refine h_begin 20 (fun y : World => y.cell? ⟨z, 0, none⟩ = some (.slice (some ⟨ab, ao, none⟩) la ca) ∧ y.cell? ⟨z, 2, none⟩ = some (.int .i64 (m : Nat))) rfl (by kernel_rfl) (hSS.out _ hBd.out) ?_
          have hHeld := hSS.out _ hBd.out
          first
            | (refine h_run (i := 1) (v := ?_) hHeld rfl (by kernel_rfl) (by kernel_rfl) (by kernel_rfl) ?_ ?_ ?_
               rotate_left
               · rfl
               · (intro x hSx; (try dsimp only at hSx); go_simp <;> with_reducible rfl)
               simp only [Act.put, List.setIfInBounds_toArray, List.set_cons_zero, List.set_cons_succ])
            | (refine h_skip (i := 1) hHeld rfl (by kernel_rfl) (by kernel_rfl) (by kernel_rfl) ?_ ?_
               · rfl
               simp only [Act.put, List.setIfInBounds_toArray, List.set_cons_zero, List.set_cons_succ])
          first
            | (refine h_run (i := 2) (v := ?_) hHeld rfl (by kernel_rfl) (by kernel_rfl) (by kernel_rfl) ?_ ?_ ?_
               rotate_left
               · rfl
               · (intro x hSx; (try dsimp only at hSx); go_simp <;> with_reducible rfl)
               simp only [Act.put, List.setIfInBounds_toArray, List.set_cons_zero, List.set_cons_succ])
            | (refine h_skip (i := 2) hHeld rfl (by kernel_rfl) (by kernel_rfl) (by kernel_rfl) ?_ ?_
               · rfl
               simp only [Act.put, List.setIfInBounds_toArray, List.set_cons_zero, List.set_cons_succ])
          first
            | (refine h_run (i := 3) (v := ?_) hHeld rfl (by kernel_rfl) (by kernel_rfl) (by kernel_rfl) ?_ ?_ ?_
               rotate_left
               · rfl
               · (intro x hSx; (try dsimp only at hSx); go_simp <;> with_reducible rfl)
               simp only [Act.put, List.setIfInBounds_toArray, List.set_cons_zero, List.set_cons_succ])
            | (refine h_skip (i := 3) hHeld rfl (by kernel_rfl) (by kernel_rfl) (by kernel_rfl) ?_ ?_
               · rfl
               simp only [Act.put, List.setIfInBounds_toArray, List.set_cons_zero, List.set_cons_succ])
          first
            | (refine h_run (i := 4) (v := ?_) hHeld rfl (by kernel_rfl) (by kernel_rfl) (by kernel_rfl) ?_ ?_ ?_
               rotate_left
               · rfl
               · (intro x hSx; (try dsimp only at hSx); go_simp <;> with_reducible rfl)
               simp only [Act.put, List.setIfInBounds_toArray, List.set_cons_zero, List.set_cons_succ])
            | (refine h_skip (i := 4) hHeld rfl (by kernel_rfl) (by kernel_rfl) (by kernel_rfl) ?_ ?_
               · rfl
               simp only [Act.put, List.setIfInBounds_toArray, List.set_cons_zero, List.set_cons_succ])
          first
            | (refine h_run (i := 5) (v := ?_) hHeld rfl (by kernel_rfl) (by kernel_rfl) (by kernel_rfl) ?_ ?_ ?_
               rotate_left
               · rfl
               · (intro x hSx; (try dsimp only at hSx); go_simp <;> with_reducible rfl)
               simp only [Act.put, List.setIfInBounds_toArray, List.set_cons_zero, List.set_cons_succ])
            | (refine h_skip (i := 5) hHeld rfl (by kernel_rfl) (by kernel_rfl) (by kernel_rfl) ?_ ?_
               · rfl
               simp only [Act.put, List.setIfInBounds_toArray, List.set_cons_zero, List.set_cons_succ])
          first
            | (refine h_run (i := 6) (v := ?_) hHeld rfl (by kernel_rfl) (by kernel_rfl) (by kernel_rfl) ?_ ?_ ?_
               rotate_left
               · rfl
               · (intro x hSx; (try dsimp only at hSx); go_simp <;> with_reducible rfl)
               simp only [Act.put, List.setIfInBounds_toArray, List.set_cons_zero, List.set_cons_succ])
            | (refine h_skip (i := 6) hHeld rfl (by kernel_rfl) (by kernel_rfl) (by kernel_rfl) ?_ ?_
               · rfl
               simp only [Act.put, List.setIfInBounds_toArray, List.set_cons_zero, List.set_cons_succ])
          first
            | (refine h_run (i := 7) (v := ?_) hHeld rfl (by kernel_rfl) (by kernel_rfl) (by kernel_rfl) ?_ ?_ ?_
               rotate_left
               · rfl
               · (intro x hSx; (try dsimp only at hSx); go_simp <;> with_reducible rfl)
               simp only [Act.put, List.setIfInBounds_toArray, List.set_cons_zero, List.set_cons_succ])
            | (refine h_skip (i := 7) hHeld rfl (by kernel_rfl) (by kernel_rfl) (by kernel_rfl) ?_ ?_
               · rfl
               simp only [Act.put, List.setIfInBounds_toArray, List.set_cons_zero, List.set_cons_succ])
          first
            | (refine h_run (i := 8) (v := ?_) hHeld rfl (by kernel_rfl) (by kernel_rfl) (by kernel_rfl) ?_ ?_ ?_
               rotate_left
               · rfl
               · (intro x hSx; (try dsimp only at hSx); go_simp <;> with_reducible rfl)
               simp only [Act.put, List.setIfInBounds_toArray, List.set_cons_zero, List.set_cons_succ])
            | (refine h_skip (i := 8) hHeld rfl (by kernel_rfl) (by kernel_rfl) (by kernel_rfl) ?_ ?_
               · rfl
               simp only [Act.put, List.setIfInBounds_toArray, List.set_cons_zero, List.set_cons_succ])
          first
            | (refine h_run (i := 9) (v := ?_) hHeld rfl (by kernel_rfl) (by kernel_rfl) (by kernel_rfl) ?_ ?_ ?_
               rotate_left
               · rfl
               · (intro x hSx; (try dsimp only at hSx); go_simp <;> with_reducible rfl)
               simp only [Act.put, List.setIfInBounds_toArray, List.set_cons_zero, List.set_cons_succ])
            | (refine h_skip (i := 9) hHeld rfl (by kernel_rfl) (by kernel_rfl) (by kernel_rfl) ?_ ?_
               · rfl
               simp only [Act.put, List.setIfInBounds_toArray, List.set_cons_zero, List.set_cons_succ])
          first
            | (refine h_run (i := 10) (v := ?_) hHeld rfl (by kernel_rfl) (by kernel_rfl) (by kernel_rfl) ?_ ?_ ?_
               rotate_left
               · rfl
               · (intro x hSx; (try dsimp only at hSx); go_simp <;> with_reducible rfl)
               simp only [Act.put, List.setIfInBounds_toArray, List.set_cons_zero, List.set_cons_succ])
            | (refine h_skip (i := 10) hHeld rfl (by kernel_rfl) (by kernel_rfl) (by kernel_rfl) ?_ ?_
               · rfl
               simp only [Act.put, List.setIfInBounds_toArray, List.set_cons_zero, List.set_cons_succ])
          first
            | (refine h_run (i := 11) (v := ?_) hHeld rfl (by kernel_rfl) (by kernel_rfl) (by kernel_rfl) ?_ ?_ ?_
               rotate_left
               · rfl
               · (intro x hSx; (try dsimp only at hSx); go_simp <;> with_reducible rfl)
               simp only [Act.put, List.setIfInBounds_toArray, List.set_cons_zero, List.set_cons_succ])
            | (refine h_skip (i := 11) hHeld rfl (by kernel_rfl) (by kernel_rfl) (by kernel_rfl) ?_ ?_
               · rfl
               simp only [Act.put, List.setIfInBounds_toArray, List.set_cons_zero, List.set_cons_succ])
          first
            | (refine h_run (i := 12) (v := ?_) hHeld rfl (by kernel_rfl) (by kernel_rfl) (by kernel_rfl) ?_ ?_ ?_
               rotate_left
               · rfl
               · (intro x hSx; (try dsimp only at hSx); go_simp <;> with_reducible rfl)
               simp only [Act.put, List.setIfInBounds_toArray, List.set_cons_zero, List.set_cons_succ])
            | (refine h_skip (i := 12) hHeld rfl (by kernel_rfl) (by kernel_rfl) (by kernel_rfl) ?_ ?_
               · rfl
               simp only [Act.put, List.setIfInBounds_toArray, List.set_cons_zero, List.set_cons_succ])
          clear hHeld
          have hEK : E - A = K := by omega
          rw [hEK]
          have hzz : Hid (∀ y, Below wr.heap.size wr y → ZAt y .u16 (some ⟨ab, ao + A, none⟩) K (fun t => (In (A + t) : Nat))) := hide (fun y hy t ht => by
            obtain ⟨b', o', e, h⟩ := (hah.out.below (hBW.out.trans ((hBh.out.trans (hy.mono hBh.out.size)).mono hBW.out.size))) (A + t) (by omega)
            cases e
            exact ⟨ab, ao + A, rfl, by rw [Nat.add_assoc]; exact h⟩)
          refine h_alloc2 (i := 17) (j := 0) (k := 13) (fj := 21) (fk := 48) (aj := #[]) (fun u => #[u, .int .u32 (j : Nat), .int .u32 (A : Nat), .int .i64 (m : Nat), .slice (some ⟨ab, ao + A, none⟩) K (ca - A)]) (.cells #[.int .u32 0, .int .u32 0, .int .i64 0, .int .i64 0, .slice none 0 0] 70) wr.heap.size (fun y => Below wr.heap.size wr y) (fun y => Below wr.heap.size wr y)
            (fun u y => ∃ p, u = .pointer (some ⟨p, 0, none⟩) ∧ IsGf y p) (fun u y => ∃ g c, u = .tuple #[.agg #[.int .u32 (j : Nat), .int .u32 (A : Nat), .int .i64 (K : Nat), .int .i64 (m : Nat), .slice (some ⟨g, 0, none⟩) (K + m) c], .int .i64 0] ∧ OwnS y wr.heap.size (.slice (some ⟨g, 0, none⟩) (K + m) c) (K + m) 2 (grD K (fun t => In (A + t)))) [0, 17] [13, 17]
            hBd.out (fun y hy => hSS.out y hy) (fun y hy => hy.size) (fun y hy => hy.alloc hy.size _) (fun y hy => hSS.out y hy) (fun y hy => hy.size) (fun y hy => hy.alloc hy.size _) (fun u y hy hu => ?_) (fun u y hy hu => ?_) (fun y hy => ?_) (fun y u hy hu => ?_) rfl rfl rfl (by kernel_rfl) (by decide) (by kernel_rfl) (by kernel_rfl) (by kernel_rfl) (by decide) (by kernel_rfl) (fun _ => rfl) (fun _ => rfl) (fun _ => rfl) (fun b y => ?_) (fun y => ?_) (fun y p => ?_) (fun y v => ?_) (fun y v p => ?_) (fun y v p => ?_) rfl (fun _ _ _ => rfl) ?_ ?_
          · obtain ⟨p, h1, h2⟩ := hu
            exact ⟨p, h1, h2.below (below_one y _) h2.lt⟩
          · obtain ⟨g, c, h1, h2⟩ := hu
            exact ⟨g, c, h1, h2.below (below_one y _)⟩
          · refine (gf_new_below y).mono ?_
            rintro e y1 ⟨rfl, h1, h2⟩
            exact ⟨_, rfl, hy.trans (h2.mono hy.size), ⟨_, rfl, h1⟩, fun q _ hq => h2.block q hq⟩
          · obtain ⟨p, rfl, hp⟩ := hu
            refine (s_make p K m (j : Nat) (A : Nat) (fun t => In (A + t)) (some ⟨ab, ao + A, none⟩) (ca - A) y hp (hzz.out y hy) (fun t => hInh.out _) hK1 (by omega) (by omega)).mono ?_
            rintro e y1 ⟨s1, c, rfl, h1, h2⟩
            obtain ⟨g, rfl⟩ := h1.ptr (by omega)
            exact ⟨_, rfl, hy.trans (h2.mono hy.size), ⟨g, c, rfl, h1.base hy.size⟩, fun q _ hq => h2.block q hq⟩
          · go_simp <;> with_reducible rfl
          · go_simp <;> with_reducible rfl
          · go_simp <;> with_reducible rfl
          · go_simp <;> with_reducible rfl
          · go_simp <;> with_reducible rfl
          · go_simp <;> with_reducible rfl
          · intro y q v u hy hu hq hBq
            obtain ⟨g, c, rfl, hos⟩ := hu
            simp only [Act.put, List.setIfInBounds_toArray, List.set_cons_zero, List.set_cons_succ]
            have hHeld : (fun y : World => y.cell? ⟨z, 0, none⟩ = some (.slice (some ⟨ab, ao, none⟩) la ca) ∧ y.cell? ⟨z, 2, none⟩ = some (.int .i64 (m : Nat))) y := hSS.out _ hy
            first
              | (refine h_run (i := 14) (v := ?_) hHeld rfl (by kernel_rfl) (by kernel_rfl) (by kernel_rfl) ?_ ?_ ?_
                 rotate_left
                 · rfl
                 · (intro x hSx; (try dsimp only at hSx); go_simp <;> with_reducible rfl)
                 simp only [Act.put, List.setIfInBounds_toArray, List.set_cons_zero, List.set_cons_succ])
              | (refine h_skip (i := 14) hHeld rfl (by kernel_rfl) (by kernel_rfl) (by kernel_rfl) ?_ ?_
                 · rfl
                 simp only [Act.put, List.setIfInBounds_toArray, List.set_cons_zero, List.set_cons_succ])
            first
              | (refine h_run (i := 15) (v := ?_) hHeld rfl (by kernel_rfl) (by kernel_rfl) (by kernel_rfl) ?_ ?_ ?_
                 rotate_left
                 · rfl
                 · (intro x hSx; (try dsimp only at hSx); go_simp <;> with_reducible rfl)
                 simp only [Act.put, List.setIfInBounds_toArray, List.set_cons_zero, List.set_cons_succ])
              | (refine h_skip (i := 15) hHeld rfl (by kernel_rfl) (by kernel_rfl) (by kernel_rfl) ?_ ?_
                 · rfl
                 simp only [Act.put, List.setIfInBounds_toArray, List.set_cons_zero, List.set_cons_succ])
            first
              | (refine h_run (i := 16) (v := ?_) hHeld rfl (by kernel_rfl) (by kernel_rfl) (by kernel_rfl) ?_ ?_ ?_
                 rotate_left
                 · rfl
                 · (intro x hSx; (try dsimp only at hSx); go_simp <;> with_reducible rfl)
                 simp only [Act.put, List.setIfInBounds_toArray, List.set_cons_zero, List.set_cons_succ])
              | (refine h_skip (i := 16) hHeld rfl (by kernel_rfl) (by kernel_rfl) (by kernel_rfl) ?_ ?_
                 · rfl
                 simp only [Act.put, List.setIfInBounds_toArray, List.set_cons_zero, List.set_cons_succ])
            clear hHeld
            have bq := blk_of hq
            have hyz := Lib.hid (below_setRow hy hBq #[.int .u32 (j : Nat), .int .u32 (A : Nat), .int .i64 (K : Nat), .int .i64 (m : Nat), .slice (some ⟨g, 0, none⟩) (K + m) c])
            have hqz := Lib.hid (setRow_heap y q _ #[.int .u32 (j : Nat), .int .u32 (A : Nat), .int .i64 (K : Nat), .int .i64 (m : Nat), .slice (some ⟨g, 0, none⟩) (K + m) c] 70 (0, 0) hq)
            have hoz : Hid (OwnS (y.setRow q #[.int .u32 (j : Nat), .int .u32 (A : Nat), .int .i64 (K : Nat), .int .i64 (m : Nat), .slice (some ⟨g, 0, none⟩) (K + m) c]) wr.heap.size (.slice (some ⟨g, 0, none⟩) (K + m) c) (K + m) 2 (grD K (fun t => In (A + t)))) := hide (hos.other (only_setRow (only_refl y (some q)) (.inl rfl) _) (fun b hb => by cases hb; exact ⟨_, _, hq, by decide, by decide⟩))
            clear hq hos
            refine h_write (i := 18) (w' := y.setRow q #[.int .u32 (j : Nat), .int .u32 (A : Nat), .int .i64 (K : Nat), .int .i64 (m : Nat), .slice (some ⟨g, 0, none⟩) (K + m) c]) (fun y : World => y.cell? ⟨z, 0, none⟩ = some (.slice (some ⟨ab, ao, none⟩) la ca) ∧ y.cell? ⟨z, 2, none⟩ = some (.int .i64 (m : Nat))) (fun _ h => h) rfl (by kernel_rfl) rfl ?_ (hSS.out _ hyz.out) ?_
            · go_simp <;> with_reducible rfl
            have hHeld := hSS.out _ hyz.out
            first
              | (refine h_run (i := 19) (v := ?_) hHeld rfl (by kernel_rfl) (by kernel_rfl) (by kernel_rfl) ?_ ?_ ?_
                 rotate_left
                 · rfl
                 · (intro x hSx; (try dsimp only at hSx); go_simp <;> with_reducible rfl)
                 simp only [Act.put, List.setIfInBounds_toArray, List.set_cons_zero, List.set_cons_succ])
              | (refine h_skip (i := 19) hHeld rfl (by kernel_rfl) (by kernel_rfl) (by kernel_rfl) ?_ ?_
                 · rfl
                 simp only [Act.put, List.setIfInBounds_toArray, List.set_cons_zero, List.set_cons_succ])
            clear hHeld bq
            refine h_done (by kernel_rfl) ?_
            go_wp2_with fail
            go_meet
            exact ⟨q, g, c, rfl, rfl, hqz, hoz, hyz⟩
          · intro y v u hy hu
            obtain ⟨g, c, rfl, hos0⟩ := hu
            simp only [Act.put, List.setIfInBounds_toArray, List.set_cons_zero, List.set_cons_succ]
            have hHeld : (fun y : World => y.cell? ⟨z, 0, none⟩ = some (.slice (some ⟨ab, ao, none⟩) la ca) ∧ y.cell? ⟨z, 2, none⟩ = some (.int .i64 (m : Nat))) y := hSS.out _ hy
            first
              | (refine h_run (i := 14) (v := ?_) hHeld rfl (by kernel_rfl) (by kernel_rfl) (by kernel_rfl) ?_ ?_ ?_
                 rotate_left
                 · rfl
                 · (intro x hSx; (try dsimp only at hSx); go_simp <;> with_reducible rfl)
                 simp only [Act.put, List.setIfInBounds_toArray, List.set_cons_zero, List.set_cons_succ])
              | (refine h_skip (i := 14) hHeld rfl (by kernel_rfl) (by kernel_rfl) (by kernel_rfl) ?_ ?_
                 · rfl
                 simp only [Act.put, List.setIfInBounds_toArray, List.set_cons_zero, List.set_cons_succ])
            first
              | (refine h_run (i := 15) (v := ?_) hHeld rfl (by kernel_rfl) (by kernel_rfl) (by kernel_rfl) ?_ ?_ ?_
                 rotate_left
                 · rfl
                 · (intro x hSx; (try dsimp only at hSx); go_simp <;> with_reducible rfl)
                 simp only [Act.put, List.setIfInBounds_toArray, List.set_cons_zero, List.set_cons_succ])
              | (refine h_skip (i := 15) hHeld rfl (by kernel_rfl) (by kernel_rfl) (by kernel_rfl) ?_ ?_
                 · rfl
                 simp only [Act.put, List.setIfInBounds_toArray, List.set_cons_zero, List.set_cons_succ])
            first
              | (refine h_run (i := 16) (v := ?_) hHeld rfl (by kernel_rfl) (by kernel_rfl) (by kernel_rfl) ?_ ?_ ?_
                 rotate_left
                 · rfl
                 · (intro x hSx; (try dsimp only at hSx); go_simp <;> with_reducible rfl)
                 simp only [Act.put, List.setIfInBounds_toArray, List.set_cons_zero, List.set_cons_succ])
              | (refine h_skip (i := 16) hHeld rfl (by kernel_rfl) (by kernel_rfl) (by kernel_rfl) ?_ ?_
                 · rfl
                 simp only [Act.put, List.setIfInBounds_toArray, List.set_cons_zero, List.set_cons_succ])
            clear hHeld
            have hT1h := Lib.hid (show Below wr.heap.size wr (y.alloc (.cells #[.int .u32 0, .int .u32 0, .int .i64 0, .int .i64 0, .slice none 0 0] 70)) from hy.alloc hy.size _)
            have hosh := Lib.hid (hos0.below (below_one y (.cells #[.int .u32 0, .int .u32 0, .int .i64 0, .int .i64 0, .slice none 0 0] 70)))
            refine h_value (i := 17) (v := .pointer (some ⟨y.heap.size, 0, none⟩)) (w' := y.alloc (.cells #[.int .u32 0, .int .u32 0, .int .i64 0, .int .i64 0, .slice none 0 0] 70)) (fun y : World => y.cell? ⟨z, 0, none⟩ = some (.slice (some ⟨ab, ao, none⟩) la ca) ∧ y.cell? ⟨z, 2, none⟩ = some (.int .i64 (m : Nat))) (fun _ h => h) rfl (by kernel_rfl) rfl ?_ (hSS.out _ hT1h.out) ?_
            · go_simp <;> with_reducible rfl
            have hq := last_block0 y (.cells #[.int .u32 0, .int .u32 0, .int .i64 0, .int .i64 0, .slice none 0 0] 70) _ rfl
            have hBq := hy.size
            clear hos0 hy
            generalize hqe : y.heap.size = q at *
            generalize World.alloc y _ = y at *
            have hy := hT1h.out
            have hos := hosh.out
            simp only [Act.put, List.setIfInBounds_toArray, List.set_cons_zero, List.set_cons_succ]
            have bq := blk_of hq
            have hyz := Lib.hid (below_setRow hy hBq #[.int .u32 (j : Nat), .int .u32 (A : Nat), .int .i64 (K : Nat), .int .i64 (m : Nat), .slice (some ⟨g, 0, none⟩) (K + m) c])
            have hqz := Lib.hid (setRow_heap y q _ #[.int .u32 (j : Nat), .int .u32 (A : Nat), .int .i64 (K : Nat), .int .i64 (m : Nat), .slice (some ⟨g, 0, none⟩) (K + m) c] 70 (0, 0) hq)
            have hoz : Hid (OwnS (y.setRow q #[.int .u32 (j : Nat), .int .u32 (A : Nat), .int .i64 (K : Nat), .int .i64 (m : Nat), .slice (some ⟨g, 0, none⟩) (K + m) c]) wr.heap.size (.slice (some ⟨g, 0, none⟩) (K + m) c) (K + m) 2 (grD K (fun t => In (A + t)))) := hide (hos.other (only_setRow (only_refl y (some q)) (.inl rfl) _) (fun b hb => by cases hb; exact ⟨_, _, hq, by decide, by decide⟩))
            clear hq hos hy
            refine h_write (i := 18) (w' := y.setRow q #[.int .u32 (j : Nat), .int .u32 (A : Nat), .int .i64 (K : Nat), .int .i64 (m : Nat), .slice (some ⟨g, 0, none⟩) (K + m) c]) (fun y : World => y.cell? ⟨z, 0, none⟩ = some (.slice (some ⟨ab, ao, none⟩) la ca) ∧ y.cell? ⟨z, 2, none⟩ = some (.int .i64 (m : Nat))) (fun _ h => h) rfl (by kernel_rfl) rfl ?_ (hSS.out _ hyz.out) ?_
            · go_simp <;> with_reducible rfl
            have hHeld := hSS.out _ hyz.out
            first
              | (refine h_run (i := 19) (v := ?_) hHeld rfl (by kernel_rfl) (by kernel_rfl) (by kernel_rfl) ?_ ?_ ?_
                 rotate_left
                 · rfl
                 · (intro x hSx; (try dsimp only at hSx); go_simp <;> with_reducible rfl)
                 simp only [Act.put, List.setIfInBounds_toArray, List.set_cons_zero, List.set_cons_succ])
              | (refine h_skip (i := 19) hHeld rfl (by kernel_rfl) (by kernel_rfl) (by kernel_rfl) ?_ ?_
                 · rfl
                 simp only [Act.put, List.setIfInBounds_toArray, List.set_cons_zero, List.set_cons_succ])
            clear hHeld bq
            refine h_done (by kernel_rfl) ?_
            go_wp2_with fail
            go_meet
            exact ⟨q, g, c, rfl, rfl, hqz, hoz, hyz⟩
        case rest =>
          obtain ⟨q, g, c, rfl, rfl, hq, ho, hBc⟩ := hcut
          have bq := blk_of hq.out
          have d2 := (cell_of_block hq.out).trans (show #[Value.int .u32 (j : Nat), .int .u32 (A : Nat), .int .i64 (K : Nat), .int .i64 (m : Nat), .slice (some ⟨g, 0, none⟩) (K + m) c][2]? = some (.int .i64 (K : Nat)) from rfl)
          have d3 := (cell_of_block hq.out).trans (show #[Value.int .u32 (j : Nat), .int .u32 (A : Nat), .int .i64 (K : Nat), .int .i64 (m : Nat), .slice (some ⟨g, 0, none⟩) (K + m) c][3]? = some (.int .i64 (m : Nat)) from rfl)
          have d4 := (cell_of_block hq.out).trans (show #[Value.int .u32 (j : Nat), .int .u32 (A : Nat), .int .i64 (K : Nat), .int .i64 (m : Nat), .slice (some ⟨g, 0, none⟩) (K + m) c][4]? = some (.slice (some ⟨g, 0, none⟩) (K + m) c) from rfl)
          obtain ⟨KM, hKM⟩ : ∃ KM, K + m = KM := ⟨_, rfl⟩
          have kw : IntKind.i64.wrap ((K : Int) + (m : Int)) = (KM : Int) := by rw [IntWalk.i64_in _ (by omega)]; omega
          have kn : ((KM : Int) != (KM : Int)) = false := by simp
          have hgm := gp_more (hgh.out.below hBc.out) (Nat.le_trans hBh.out.size hBc.out.size) (by omega) g c (by rw [hKh.out, hAh.out]; exact ho.out.base hBh.out.size) 58
          rw [hKh.out, hAh.out] at hgm
          rw [hKM] at hgm d4 bq
          obtain ⟨v', w', D', cp', hr', hg', hB'⟩ := hgm
          have hBw' := Lib.hid ((hBh.out.trans (hBc.out.mono hBh.out.size)).trans hB')
          have hrh := Lib.hid hr'
          have hgh' := Lib.hid hg'
          clear hr' hg' hB'
          have iw1 : IntKind.i64.wrap ((A : Int) + (S : Int)) = ((A + S : Nat) : Int) := by rw [IntWalk.i64_in _ (by omega)]; omega
          have hR : Hid (GpsRel W la S m In v' (.int .i64 ((A + S : Nat) : Int)) w') := hide ⟨j + 1, D', cp', by rw [← hAh.out, Nat.succ_mul], hgh'.out, fun i hi => by
            by_cases e : i = j
            · subst e; rw [hAh.out]; exact hlt
            · exact hjsh.out i (by omega), hBw'.out⟩
          have hmeas : la - (A + S) < la - A := by omega
          obtain ⟨AS, hAS2⟩ : ∃ AS, A + S = AS := ⟨_, rfl⟩
          rw [hAS2] at iw1 hR hmeas
          have c1' := hcell.out w' 1 _ hBw'.out rfl
          clear hAS2 c0 c1 c2
          go_wp2_with (at_builtin; refine wpList_app_runV rfl (.tmp 56) (.tmp 58) _ _ rfl rfl rfl hrh.out ?_)
          refine ⟨?_, ?_⟩
          rotate_left
          · simpa [intOf] using hmeas
          first
            | exact hR.out
            | (repeat (apply Exists.intro)
               exact ⟨hR.out, rfl⟩)
    · have i1 : decide ((A : Int) < (la : Int)) = false := decide_eq_false (by omega)
      have i2 : decide (A < la) = false := decide_eq_false hlt
      have hend : Hid (GpsPost w la S m In (.returned (.tuple #[u4, .bool true])) wr) := hide ⟨u4, j, D, cp, rfl, ⟨hgh.out.1.base hBW.out.size, fun i hi => (hgh.out.2 i hi).base hBW.out.size⟩, by rw [hAh.out]; omega, hjsh.out, hBW.out.trans (hBh.out.mono hBW.out.size)⟩
      obtain ⟨s4, k4, rfl, _⟩ := hgh.out.1.form
      clear hlt
      go_wp2_with fail
      go_ret2
      exact hend.out
end Go.Proofs.Ytmfagdbocidfjaa
