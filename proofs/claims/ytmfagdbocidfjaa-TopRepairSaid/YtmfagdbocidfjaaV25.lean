import Derived.Test.YtmfagdbocidfjaaV06
import Derived.Test.YtmfagdbocidfjaaV19
/- A drawn region in which a fresh block comes at any place among two calls, of which the second wants the first's result. Lemmas alone. -/
namespace Go.Proofs.Ytmfagdbocidfjaa
open Go.RowKit
section
variable {P : Program} {ops : Array Oper} {Q : Exit → Act → World → Prop} {S : World → Prop}
set_option maxRecDepth 100000 in
theorem h_alloc2 {i j k : Nat} {oi oj ok : Oper} {fj fk : FuncId} {aj : Array Value} (ak : Value → Array Value) {fuel : Nat} {listed : Array Bool} {a : Act} {w : World} (oB : Obj) (B : Nat) (T T1 : World → Prop) (Rj Rk : Value → World → Prop) (l1 l2 : List Nat)
    (hw : T w) (hTS : ∀ x, T x → S x) (hTB : ∀ x, T x → B ≤ x.heap.size) (hTal : ∀ x, T x → T (x.alloc oB)) (hTS1 : ∀ x, T1 x → S x) (hTB1 : ∀ x, T1 x → B ≤ x.heap.size) (hTal1 : ∀ x, T1 x → T1 (x.alloc oB)) (hRj : ∀ v x, T1 x → Rj v x → Rj v (x.alloc oB)) (hRk : ∀ v x, T1 x → Rk v x → Rk v (x.alloc oB))
    (cj : ∀ x, T x → Calls P fj aj x fun e x' => ∃ v, e = .returned v ∧ T1 x' ∧ Rj v x' ∧ ∀ q, B ≤ q → q < x.heap.size → x'.heap[q]? = x.heap[q]?)
    (ck : ∀ x v, T1 x → Rj v x → Calls P fk (ak v) x fun e x' => ∃ u, e = .returned u ∧ T1 x' ∧ Rk u x' ∧ ∀ q, B ≤ q → q < x.heap.size → x'.heap[q]? = x.heap[q]?)
    (hi0 : opAt ops.toList i = some oi) (hj0 : opAt ops.toList j = some oj) (hk0 : opAt ops.toList k = some ok)
    (r0 : Region.ready .any ops listed = l1) (l1m : l1 ≠ [] ∧ ∀ m ∈ l1, m = i ∨ m = j)
    (ri : Region.ready .any ops (listed.setIfInBounds i true) = [j]) (rij : Region.ready .any ops ((listed.setIfInBounds i true).setIfInBounds j true) = [k])
    (rj : Region.ready .any ops (listed.setIfInBounds j true) = l2) (l2m : l2 ≠ [] ∧ ∀ m ∈ l2, m = i ∨ m = k)
    (rji : Region.ready .any ops ((listed.setIfInBounds j true).setIfInBounds i true) = [k])
    (wi : ∀ t, Region.wanted oi t = true) (wj : ∀ t, Region.wanted oj t = true) (wk : ∀ t, Region.wanted ok t = true)
    (vi : ∀ b x, (execOp (Act.eval b) oi).run P x = .ok (.value (.pointer (some ⟨x.heap.size, 0, none⟩))) (x.alloc oB))
    (ej : ∀ x, (execOp a.eval oj).run P x = .ok (.enter fj aj) x) (ej' : ∀ x p, (execOp (a.put oi.dst p).eval oj).run P x = .ok (.enter fj aj) x)
    (ek : ∀ x v, (execOp (a.put oj.dst v).eval ok).run P x = .ok (.enter fk (ak v)) x) (ek1 : ∀ x v p, (execOp ((a.put oi.dst p).put oj.dst v).eval ok).run P x = .ok (.enter fk (ak v)) x)
    (ek2 : ∀ x v p, (execOp ((a.put oj.dst v).put oi.dst p).eval ok).run P x = .ok (.enter fk (ak v)) x)
    (hl1 : (((listed.setIfInBounds j true).setIfInBounds i true).setIfInBounds k true) = (((listed.setIfInBounds i true).setIfInBounds j true).setIfInBounds k true))
    (ha1 : ∀ p v u, ((a.put oj.dst v).put oi.dst p).put ok.dst u = ((a.put oi.dst p).put oj.dst v).put ok.dst u)
    (h : ∀ x q v u, T1 x → Rk u x → x.heap[q]? = some oB → B ≤ q → wpAnyH P .any ops (NoPanic Q) S fuel (((listed.setIfInBounds i true).setIfInBounds j true).setIfInBounds k true) (((a.put oi.dst (.pointer (some ⟨q, 0, none⟩))).put oj.dst v).put ok.dst u) x)
    (h2 : ∀ x v u, T1 x → Rk u x → wpAnyH P .any ops (NoPanic Q) S (fuel + 1) ((listed.setIfInBounds j true).setIfInBounds k true) ((a.put oj.dst v).put ok.dst u) x) :
    wpAnyH P .any ops (NoPanic Q) S (fuel + 1 + 1 + 1) listed a w := by
  have hnew : ∀ x : World, (x.alloc oB).heap[x.heap.size]? = some oB := fun x => by show (x.heap.push oB)[x.heap.size]? = _; rw [Array.getElem?_push, if_pos rfl]
  have hsz : ∀ x : World, x.heap.size < (x.alloc oB).heap.size := fun x => by show _ < (x.heap.push _).size; rw [Array.size_push]; omega
  refine wpAnyH_all r0 l1m.1 (fun m hm => ?_)
  rcases l1m.2 m hm with rfl | rfl
  · -- the block first
    refine wpOp_step (opAt_of hi0) (fun K' hK => ?_)
    rw [if_pos (wi _)]
    unfold Oper.wp
    rw [vi a w]
    refine hK _ _ ⟨hTS _ (hTal w hw), ?_⟩
    refine h_call (i := j) S (fun _ h => h) (cj _ (hTal w hw)) hj0 ri (wj _) (ej' _ _) (fun e x1 hx1 => ?_)
    obtain ⟨v, rfl, h1, h1b, h3⟩ := hx1
    refine ⟨v, rfl, hTS1 _ h1, ?_⟩
    refine h_call (i := k) S (fun _ h => h) (ck _ v h1 h1b) hk0 rij (wk _) (ek1 _ _ _) (fun e x2 hx2 => ?_)
    obtain ⟨u, rfl, h4, h5, h6⟩ := hx2
    refine ⟨u, rfl, hTS1 _ h4, h _ _ _ _ h4 h5 ?_ (hTB w hw)⟩
    have hs1 : w.heap.size < x1.heap.size := by
      have := h3 w.heap.size (hTB w hw) (hsz w)
      rw [hnew w] at this
      exact (Array.getElem?_eq_some_iff.1 this).1
    rw [h6 _ (hTB w hw) hs1, h3 _ (hTB w hw) (hsz w), hnew w]
  · refine wpOp_step (opAt_of hj0) (fun K' hK => ?_)
    rw [if_pos (wj _)]
    unfold Oper.wp
    rw [ej w]
    exact (cj w hw).mono fun e x1 hx1 => by
      obtain ⟨v, rfl, h1, h1b, h3⟩ := hx1
      refine hK _ _ ⟨hTS1 _ h1, ?_⟩
      refine wpAnyH_all rj l2m.1 (fun m2 hm2 => ?_)
      rcases l2m.2 m2 hm2 with rfl | rfl
      · -- then the block
        refine wpOp_step (opAt_of hi0) (fun K2 hK2 => ?_)
        rw [if_pos (wi _)]
        unfold Oper.wp
        rw [vi _ x1]
        refine hK2 _ _ ⟨hTS1 _ (hTal1 x1 h1), ?_⟩
        refine h_call (i := k) S (fun _ h => h) (ck _ v (hTal1 x1 h1) (hRj v x1 h1 h1b)) hk0 rji (wk _) (ek2 _ _ _) (fun e x2 hx2 => ?_)
        obtain ⟨u, rfl, h4, h5, h6⟩ := hx2
        refine ⟨u, rfl, hTS1 _ h4, ?_⟩
        rw [hl1, ha1]
        refine h _ _ _ _ h4 h5 ?_ (hTB1 x1 h1)
        rw [h6 _ (hTB1 x1 h1) (hsz x1), hnew x1]
      · -- then the other call
        refine wpOp_step (opAt_of hk0) (fun K2 hK2 => ?_)
        rw [if_pos (wk _)]
        unfold Oper.wp
        rw [ek x1 v]
        exact (ck x1 v h1 h1b).mono fun e x2 hx2 => by
          obtain ⟨u, rfl, h4, h5, h6⟩ := hx2
          exact hK2 _ _ ⟨hTS1 _ h4, h2 _ _ _ h4 h5⟩
end
end Go.Proofs.Ytmfagdbocidfjaa

/- The contract of package matrix's Mul. Conditions: what the slices read as. -/
namespace Go.Proofs.Ytmfagdbocidfjaa
open Go.RowKit
/-- a row that lies elsewhere is added, by an element, to row k -/
def axF (F : Nat → Nat → Nat) (k d : Nat) (v : Nat → Nat) (r c : Nat) : Nat := if r = k then F r c ^^^ rmul d (v c) else F r c
set_option maxRecDepth 100000 in
theorem m_mixby (p g R C k d : Nat) (t : Option Addr) (v : Nat → Nat) (F : Nat → Nat → Nat) (w : World) (hg : IsGf w p) (hne : p ≠ g) (hm : MRow w g R C F) (hb : Bd2 F) (hv : ∀ c, v c < 256) (hk : k < R) (hd : d < 256) (ht : By w t C v) (hlow : ∀ b off, t = some ⟨b, off, none⟩ → 0 < C → b ≠ g) (hR : R ≤ 255) (hC : C ≤ 255) :
    Calls Try.prog 124 #[.pointer (some ⟨p, 0, none⟩), .slice (some ⟨g, k * C, none⟩) C C, .int .u8 (d : Nat), .slice t C C] w (RowsPost w g R C (axF F k d v)) := by
  have h2 := rc_le hR hC
  have h := gf_mixo p g (R * C) (k * C) C C d t C C (flF C F) v w hg hne hm (idx_row hk) (fl_bd C F hb) hv (fun j hj _ => by
    obtain ⟨bb, off, hs, hc⟩ := ht j hj
    exact ⟨bb, off, hs, hc, fun e => absurd e (hlow bb off hs (by omega))⟩) hd (by omega) (by omega)
  refine h.mono fun e w' hh => ⟨hh.1, MRow.of hh.2.1 (fun r c hr hc => ?_), hh.2.2⟩
  rw [Nat.min_self]
  unfold mixF axF
  rw [fl_at C F r c hc]
  by_cases e : r = k
  · subst e
    rw [if_pos (by omega), if_pos rfl, Nat.add_sub_cancel_left]
  · rw [if_neg e, if_neg]
    intro h3
    rcases Nat.lt_or_gt_of_ne e with h4 | h4
    · have := idx_row (C := C) h4; omega
    · have := idx_row (C := C) h4; omega
/-- rows ahead of i are done, of row i k products are there -/
def mlP (F G : Nat → Nat → Nat) (K i k r c : Nat) : Nat := if r < i then dtF F G r c K else if r = i then dtF F G r c k else 0
set_option maxRecDepth 100000 in
theorem mlP_bd (F G : Nat → Nat → Nat) (K i k : Nat) : Bd2 (mlP F G K i k) := fun r c => by
  unfold mlP
  split
  · exact dt_lt _ _ _ _ _
  · split
    · exact dt_lt _ _ _ _ _
    · decide
set_option maxRecDepth 100000 in
theorem mlP_zero (F G : Nat → Nat → Nat) (K r c : Nat) : 0 = mlP F G K 0 0 r c := by
  unfold mlP
  rw [if_neg (by omega), dt_zero]
  split <;> rfl
set_option maxRecDepth 100000 in
theorem mlP_next (F G : Nat → Nat → Nat) (K i k r c : Nat) : axF (mlP F G K i k) i (F i k) (G k) r c = mlP F G K i (k + 1) r c := by
  unfold axF mlP
  by_cases h : r = i
  · subst h
    rw [if_pos rfl, if_neg (by omega), if_pos rfl, if_neg (by omega), if_pos rfl, dt_next]
  · rw [if_neg h]
    by_cases h2 : r < i
    · rw [if_pos h2, if_pos h2]
    · rw [if_neg h2, if_neg h2, if_neg h, if_neg h]
set_option maxRecDepth 100000 in
theorem mlP_row (F G : Nat → Nat → Nat) (K i r c : Nat) : mlP F G K i K r c = mlP F G K (i + 1) 0 r c := by
  unfold mlP
  by_cases h : r < i
  · rw [if_pos h, if_pos (by omega)]
  · rw [if_neg h]
    by_cases h2 : r = i
    · rw [if_pos h2, if_pos (by omega)]
    · rw [if_neg h2, if_neg (by omega), dt_zero]
      split <;> rfl
set_option maxRecDepth 100000 in
theorem mlP_end (F G : Nat → Nat → Nat) (K R r c : Nat) (hr : r < R) : mlP F G K R 0 r c = mlF F G K r c := by unfold mlP mlF; rw [if_pos hr]
attribute [local irreducible] gexp gtbl glog rmul rinv rpow zexp mixF blk wLoad wLoadRes loadAns wStore wStoreRes storeAns Plain flF BRow MRow IsGf OwnZ zfl dtF mlP
attribute [local go_sem ↓] ld_m0 sto_m0
attribute [local go_sem] ld_m sto_m loadAns_some storeAns_some mx_size mx_plain blk_alloc_if blk_setRow_if blk_drew_at blk_drewN_at rowPut_some blk_setCell_if cellPut_some
set_option maxRecDepth 100000 in
set_option maxHeartbeats 4000000 in
theorem m_mul_no (p : Nat) (r c r2 c2 : Int) (a b : Option Addr) (len cap len2 cap2 : Nat) (w : World) (h : rightB r c len = false ∨ rightB r2 c2 len2 = false ∨ c ≠ r2) :
    Calls Try.prog 101 #[.pointer (some ⟨p, 0, none⟩), .agg #[.int .i64 r, .int .i64 c, .slice a len cap], .agg #[.int .i64 r2, .int .i64 c2, .slice b len2 cap2]] w (NoMPost w 50) := by
  have hz := zeroM
  obtain ⟨h0, h1, h2, hsz, hB⟩ := three_allocs w (.cells #[.int .i64 r, .int .i64 c, .slice a len cap] 188) (.cells #[.int .i64 r2, .int .i64 c2, .slice b len2 cap2] 188) (.cells #[.int .i64 0, .int .i64 0, .slice none 0 0] 188)
  have kr := Lib.hid (fun W => m_right r c a len cap W)
  have kr2 := Lib.hid (fun W => m_right r2 c2 b len2 cap2 W)
  obtain ⟨ba, hba⟩ : ∃ ba, rightB r c len = ba := ⟨_, rfl⟩
  obtain ⟨bb, hbb⟩ : ∃ bb, rightB r2 c2 len2 = bb := ⟨_, rfl⟩
  rw [hba] at h kr
  rw [hbb] at h kr2
  clear hba hbb
  go_enter Try.func101, Try.ntmps101
  go_upto_region 1 with (fail)
  generalize World.alloc (World.alloc (World.alloc w _) _) _ = W at *
  have hx0 : w.heap.size < W.heap.size := by omega
  have hx1 : w.heap.size + 1 < W.heap.size := by omega
  have hx2 : w.heap.size + 2 < W.heap.size := by omega
  have b0 := blk_of h0
  have h0h := Lib.hid b0
  have h1h := Lib.hid (blk_of h1)
  have h2h := Lib.hid h2
  have hBh := Lib.hid hB
  clear h0 h1 h2 hsz hB
  go_wp2_with fail
  refine (kr.out W).mono ?_
  rintro e w2 ⟨rfl, hb2⟩
  have hb2h := Lib.hid hb2
  have b12h := Lib.hid ((hb2.block _ hx2).trans h2h.out)
  have b12 := blk_of b12h.out
  have b1 := (blk_below hb2 hx1).trans h1h.out
  have hB2 := Lib.hid (hBh.out.trans (hb2.mono hBh.out.size))
  clear hb2 b0
  cases ba with
  | false =>
    go_wp2_with fail
    refine bodyPost_ret (v := .tuple #[.agg #[.int .i64 0, .int .i64 0, .slice none 0 0], .int .i64 50]) (results_row_tmp rfl _ _ (w.heap.size + 2) 188 _ (0, 0) _ _ rfl rfl (setRow_heap _ _ _ _ _ _ b12h.out) Try.underlying188 rfl mx_info) rfl ⟨rfl, below_setRow hB2.out (by omega) _⟩
  | true =>
    go_wp2_with fail
    refine (kr2.out w2).mono ?_
    rintro e w3 ⟨rfl, hb3⟩
    have hb3h := Lib.hid (below_step hb2h.out hb2h.out.size hb3)
    have b13h := Lib.hid ((hb3h.out.block _ hx2).trans h2h.out)
    have b13 := blk_of b13h.out
    have d0 := (blk_below hb3h.out hx0).trans h0h.out
    have d1 := (blk_below hb3h.out hx1).trans h1h.out
    have cc1 : w3.cell? ⟨w.heap.size, 1, none⟩ = some (.int .i64 c) := (cell_of_block (blk_heap d0)).trans rfl
    have cc0 : w3.cell? ⟨w.heap.size + 1, 0, none⟩ = some (.int .i64 r2) := (cell_of_block (blk_heap d1)).trans rfl
    have hB3 := Lib.hid (hBh.out.trans (hb3h.out.mono hBh.out.size))
    clear hb3 b12 b1 d0 d1
    cases bb with
    | false =>
      go_wp2_with fail
      refine bodyPost_ret (v := .tuple #[.agg #[.int .i64 0, .int .i64 0, .slice none 0 0], .int .i64 50]) (results_row_tmp rfl _ _ (w.heap.size + 2) 188 _ (0, 0) _ _ rfl rfl (setRow_heap _ _ _ _ _ _ b13h.out) Try.underlying188 rfl mx_info) rfl ⟨rfl, below_setRow hB3.out (by omega) _⟩
    | true =>
      have hne := beq_i ((h.resolve_left (by simp)).resolve_left (by simp))
      go_wp2_with fail
      refine bodyPost_ret (v := .tuple #[.agg #[.int .i64 0, .int .i64 0, .slice none 0 0], .int .i64 50]) (results_row_tmp rfl _ _ (w.heap.size + 2) 188 _ (0, 0) _ _ rfl rfl (setRow_heap _ _ _ _ _ _ b13h.out) Try.underlying188 rfl mx_info) rfl ⟨rfl, below_setRow hB3.out (by omega) _⟩
set_option maxRecDepth 100000 in
set_option maxHeartbeats 8000000 in
theorem m_mul (p R K C : Nat) (a b : Option Addr) (ca cb : Nat) (F G : Nat → Nat → Nat) (w : World) (hp : IsGf w p) (ha : MAt w a R K F) (hb : MAt w b K C G) (hF : Bd2 F) (hG : Bd2 G) (hR : R ≤ 255) (hK : K ≤ 255) (hC : C ≤ 255) (hca : R * K ≤ ca) (hcb : K * C ≤ cb) :
    Calls Try.prog 101 #[.pointer (some ⟨p, 0, none⟩), .agg #[.int .i64 (R : Nat), .int .i64 (K : Nat), .slice a (R * K) ca], .agg #[.int .i64 (K : Nat), .int .i64 (C : Nat), .slice b (K * C) cb]] w (NewMPost w R C (mlF F G K)) := by
  have hz := zeroM
  obtain ⟨h0, h1, h2, hsz, hB⟩ := three_allocs w (.cells #[.int .i64 (R : Nat), .int .i64 (K : Nat), .slice a (R * K) ca] 188) (.cells #[.int .i64 (K : Nat), .int .i64 (C : Nat), .slice b (K * C) cb] 188) (.cells #[.int .i64 0, .int .i64 0, .slice none 0 0] 188)
  have kra := Lib.hid (fun W => m_right R K a (R * K) ca W)
  have krb := Lib.hid (fun W => m_right K C b (K * C) cb W)
  rw [right_nat R K hR hK] at kra
  rw [right_nat K C hK hC] at krb
  have kn := Lib.hid (fun W => m_new R C W hR hC)
  have kA := Lib.hid (fun i W (hi : i < R) => m_row R K i a ca W (ha.some (by omega)) hi hR hK hca)
  have kB := Lib.hid (fun k W (hk : k < K) => m_row K C k b cb W (hb.some (by omega)) hk hK hC hcb)
  have kO := Lib.hid (fun g i W (hi : i < R) => m_row_own R C i g (R * C) W hi hR hC (Nat.le_refl _))
  have hah := Lib.hid ha
  have hbh := Lib.hid hb
  have hph := Lib.hid hp
  have hpl := hp.lt
  obtain ⟨NA, hNA⟩ : ∃ NA, R * K = NA := ⟨_, rfl⟩
  obtain ⟨NB, hNB⟩ : ∃ NB, K * C = NB := ⟨_, rfl⟩
  obtain ⟨N, hN⟩ : ∃ N, R * C = N := ⟨_, rfl⟩
  rw [hNA] at kA kra h0 h1 h2 hsz hB ⊢
  rw [hNB] at kB krb h0 h1 h2 hsz hB ⊢
  rw [hN] at kO
  have hNh := Lib.hid hN
  clear ha hb hp hNA hNB hN hca hcb
  go_enter Try.func101, Try.ntmps101
  go_upto_region 1 with (fail)
  generalize World.alloc (World.alloc (World.alloc w _) _) _ = W at *
  have hx0 : w.heap.size < W.heap.size := by omega
  have hx1 : w.heap.size + 1 < W.heap.size := by omega
  have hx2 : w.heap.size + 2 < W.heap.size := by omega
  have b0 := blk_of h0
  have h0h := Lib.hid b0
  have h1h := Lib.hid (blk_of h1)
  have h2h := Lib.hid h2
  have hBh := Lib.hid hB
  have hwW : w.heap.size ≤ W.heap.size := by omega
  have hpW := Lib.hid (hph.out.below hB hpl)
  have haW := Lib.hid (hah.out.below hB)
  have hbW := Lib.hid (hbh.out.below hB)
  clear h0 h1 h2 hsz hB
  go_wp2_with fail
  refine (kra.out W).mono ?_
  rintro e w2 ⟨rfl, hb2⟩
  have hb2h := Lib.hid hb2
  have b1 := (blk_below hb2 hx1).trans h1h.out
  clear hb2 b0
  go_wp2_with fail
  refine (krb.out w2).mono ?_
  rintro e w3 ⟨rfl, hb3⟩
  have hb3h := Lib.hid (below_step hb2h.out hb2h.out.size hb3)
  have d0 := (blk_below hb3h.out hx0).trans h0h.out
  have d1 := (blk_below hb3h.out hx1).trans h1h.out
  have cc1 : w3.cell? ⟨w.heap.size, 1, none⟩ = some (.int .i64 (K : Nat)) := (cell_of_block (blk_heap d0)).trans rfl
  have cc0 : w3.cell? ⟨w.heap.size + 1, 0, none⟩ = some (.int .i64 (K : Nat)) := (cell_of_block (blk_heap d1)).trans rfl
  have cr0 : w3.cell? ⟨w.heap.size, 0, none⟩ = some (.int .i64 (R : Nat)) := (cell_of_block (blk_heap d0)).trans rfl
  have cr1 : w3.cell? ⟨w.heap.size + 1, 1, none⟩ = some (.int .i64 (C : Nat)) := (cell_of_block (blk_heap d1)).trans rfl
  have hne := bne_cast_f K
  have hs3 := hb3h.out.size
  clear hb3 b1 d0 d1
  go_wp2_with fail
  refine (kn.out w3).mono ?_
  rintro e w4 ⟨g, rfl, hg, hm, hb4⟩
  have hmh := Lib.hid hm
  have hgl := hm.lt
  have hb4h := Lib.hid (below_step hb3h.out hs3 hb4)
  have hs4 := hb4.size
  clear hm hb4 cc1 cc0 cr0 cr1
  rw [hNh.out]
  go_upto_region 4 with (fail)
  obtain ⟨x0, x1, x2⟩ := boxed w4 #[.int .i64 0, .int .i64 0, .slice none 0 0] #[.int .i64 (R : Nat), .int .i64 (C : Nat), .slice (some ⟨g, 0, none⟩) N N] 188
  generalize World.setRow (World.alloc w4 _) _ _ = X at *
  have hX1 : w4.heap.size < X.heap.size := by omega
  have hmX : Hid (MRow X g R C (mlP F G K 0 0)) := hide ((hmh.out.below x2 hgl).congr (fun r c _ _ => mlP_zero F G K r c))
  have hbX := Lib.hid (hb4h.out.trans (x2.mono (by omega)))
  have hx0h := Lib.hid (blk_of x0)
  have hpX := Lib.hid (hpW.out.below hbX.out (by have := hpW.out.lt; omega))
  have haX := Lib.hid (haW.out.below hbX.out)
  have hbX2 := Lib.hid (hbW.out.below hbX.out)
  have e0 := (blk_below hbX.out hx0).trans h0h.out
  have e1 := (blk_below hbX.out hx1).trans h1h.out
  have cr0 : X.cell? ⟨w.heap.size, 0, none⟩ = some (.int .i64 (R : Nat)) := (cell_of_block (blk_heap e0)).trans rfl
  have hXW := hbX.out.size
  have hpg : p ≠ g := by omega
  have hog : w4.heap.size ≠ g := by omega
  have hgW : W.heap.size ≤ g := by omega
  -- what the boxes hold behind what is written to g
  have hS : Hid (∀ y : World, X.grownBy y (some g) → (blk y w.heap.size = some (.cells #[.int .i64 (R : Nat), .int .i64 (K : Nat), .slice a NA ca] 188 (0, 0)) ∧ blk y (w.heap.size + 1) = some (.cells #[.int .i64 (K : Nat), .int .i64 (C : Nat), .slice b NB cb] 188 (0, 0)) ∧ blk y w4.heap.size = some (.cells #[.int .i64 (R : Nat), .int .i64 (C : Nat), .slice (some ⟨g, 0, none⟩) N N] 188 (0, 0)))) := hide (fun y hy =>
    ⟨(blk_kept hy (by omega) (by omega)).trans ((blk_below hbX.out hx0).trans h0h.out), (blk_kept hy (by omega) (by omega)).trans ((blk_below hbX.out hx1).trans h1h.out), (blk_kept hy hX1 hog).trans hx0h.out⟩)
  have hpS := Lib.hid (fun y (hy : X.grownBy y (some g)) => hpX.out.kept hy hpg)
  have hAB : Hid (∀ i, i < R → ∀ b' off, rowA a K i = some ⟨b', off, none⟩ → 0 < K → b' < w.heap.size) := hide (fun i hi b' off he h0 => by
    obtain ⟨b2, o2, h3, h4⟩ := hah.out.row i hi 0 h0
    rw [he] at h3; cases h3; exact cell_block_lt h4)
  have hBB : Hid (∀ k, k < K → ∀ b' off, rowA b C k = some ⟨b', off, none⟩ → 0 < C → b' < w.heap.size) := hide (fun k hk b' off he h0 => by
    obtain ⟨b2, o2, h3, h4⟩ := hbh.out.row k hk 0 h0
    rw [he] at h3; cases h3; exact cell_block_lt h4)
  have hAr : Hid (∀ y, X.grownBy y (some g) → ∀ i, i < R → By y (rowA a K i) K (F i)) := hide (fun y hy i hi c hc => by
    obtain ⟨b2, o2, h3, h4⟩ := haX.out.row i hi c hc
    have hlt := hAB.out i hi b2 o2 h3 (by omega)
    exact ⟨b2, o2, h3, by rw [World.cell?_of_block (a := ⟨b2, o2 + c, none⟩) (hy.block b2 (by omega) (fun e => by injection e with e; omega))]; exact h4⟩)
  have hBr : Hid (∀ y, X.grownBy y (some g) → ∀ i, i < K → By y (rowA b C i) C (G i)) := hide (fun y hy i hi c hc => by
    obtain ⟨b2, o2, h3, h4⟩ := hbX2.out.row i hi c hc
    have hlt := hBB.out i hi b2 o2 h3 (by omega)
    exact ⟨b2, o2, h3, by rw [World.cell?_of_block (a := ⟨b2, o2 + c, none⟩) (hy.block b2 (by omega) (fun e => by injection e with e; omega))]; exact h4⟩)
  clear x0 x1 x2 e0 e1 hs4 hgl
  go_upto_region 5 with (fail)
  clear cr0
  go_loopw [39] (fun iv wr => ∃ i : Nat, i ≤ R ∧ iv = .int .i64 (i : Nat) ∧ Hid (MRow wr g R C (mlP F G K i 0)) ∧ Hid (X.grownBy wr (some g))) (fun iv _ => R - (intOf iv).toNat)
  case atStart => exact ⟨0, Nat.zero_le _, rfl, hmX, hide (only_refl _ _)⟩
  case round =>
    obtain ⟨i, hi, rfl, hM0, hG0⟩ := hrel
    clear hmX
    by_cases hiR : i < R
    · have i1 : (i : Int) < (R : Int) := by omega
      have b0 := (hS.out wr hG0.out).1
      have k1 := Lib.hid (kA.out i wr hiR)
      go_wp2_with fail
      refine k1.out.mono ?_
      rintro e w5 ⟨rfl, hb5⟩
      have hM5 := Lib.hid (hM0.out.below hb5 hM0.out.lt)
      have hG5 := Lib.hid (only_trans hG0.out (only_of_below hb5 _))
      clear hb5 b0
      go_upto_region 8 with (fail)
      go_loopw [46] (fun kv wr => ∃ k : Nat, k ≤ K ∧ kv = .int .i64 (k : Nat) ∧ Hid (MRow wr g R C (mlP F G K i k)) ∧ Hid (X.grownBy wr (some g))) (fun kv _ => K - (intOf kv).toNat)
      case atStart => exact ⟨0, Nat.zero_le _, rfl, hM5, hG5⟩
      case round =>
        obtain ⟨k, hk, rfl, hM1, hG1⟩ := hrel
        clear hM5 hG5
        by_cases hkK : k < K
        · have i2 : (k : Int) < (K : Int) := by omega
          obtain ⟨bb, oo, hse, cx⟩ := hAr.out wr hG1.out i hiR k hkK
          rw [hse]
          clear hse
          have hd := hF i k
          have hnx := Lib.hid (fun r c => mlP_next F G K i k r c)
          have hvb := hG k
          generalize hFik : F i k = d at *
          clear hFik
          go_upto_region 10 with (fail)
          clear cx
          have hG1d := Lib.hid (only_drewN hG1.out 1)
          have hM1d := Lib.hid (hM1.out.drewN 1)
          refine h_begin 9 (fun y : World => blk y (w.heap.size + 1) = some (.cells #[.int .i64 (K : Nat), .int .i64 (C : Nat), .slice b NB cb] 188 (0, 0)) ∧ blk y w4.heap.size = some (.cells #[.int .i64 (R : Nat), .int .i64 (C : Nat), .slice (some ⟨g, 0, none⟩) N N] 188 (0, 0))) rfl (by kernel_rfl) (hS.out _ hG1d.out).2 ?_
          have hHeld : (fun y : World => blk y (w.heap.size + 1) = some (.cells #[.int .i64 (K : Nat), .int .i64 (C : Nat), .slice b NB cb] 188 (0, 0)) ∧ blk y w4.heap.size = some (.cells #[.int .i64 (R : Nat), .int .i64 (C : Nat), .slice (some ⟨g, 0, none⟩) N N] 188 (0, 0))) wr.drew := (hS.out _ hG1d.out).2
          first
            | (refine h_run (i := 0) (v := ?_) hHeld rfl (by kernel_rfl) (by kernel_rfl) (by kernel_rfl) ?_ ?_ ?_
               rotate_left
               · rfl
               · (intro x hSx; (try dsimp only at hSx); go_simp <;> with_reducible rfl)
               simp only [Act.put, List.setIfInBounds_toArray, List.set_cons_zero, List.set_cons_succ])
            | (refine h_skip (i := 0) hHeld rfl (by kernel_rfl) (by kernel_rfl) (by kernel_rfl) ?_ ?_
               · rfl
               simp only [Act.put, List.setIfInBounds_toArray, List.set_cons_zero, List.set_cons_succ])
          first
            | (refine h_run (i := 1) (v := ?_) hHeld rfl (by kernel_rfl) (by kernel_rfl) (by kernel_rfl) ?_ ?_ ?_
               rotate_left
               · rfl
               · (intro x hSx; (try dsimp only at hSx); go_simp <;> with_reducible rfl)
               simp only [Act.put, List.setIfInBounds_toArray, List.set_cons_zero, List.set_cons_succ])
            | (refine h_skip (i := 1) hHeld rfl (by kernel_rfl) (by kernel_rfl) (by kernel_rfl) ?_ ?_
               · rfl
               simp only [Act.put, List.setIfInBounds_toArray, List.set_cons_zero, List.set_cons_succ])
          first
            | (refine h_run (i := 2) (v := ?_) hHeld rfl (by kernel_rfl) (by kernel_rfl) (by kernel_rfl) ?_ ?_ ?_
               rotate_left
               · rfl
               · (intro x hSx; (try dsimp only at hSx); go_simp <;> with_reducible rfl)
               simp only [Act.put, List.setIfInBounds_toArray, List.set_cons_zero, List.set_cons_succ])
            | (refine h_skip (i := 2) hHeld rfl (by kernel_rfl) (by kernel_rfl) (by kernel_rfl) ?_ ?_
               · rfl
               simp only [Act.put, List.setIfInBounds_toArray, List.set_cons_zero, List.set_cons_succ])
          first
            | (refine h_run (i := 4) (v := ?_) hHeld rfl (by kernel_rfl) (by kernel_rfl) (by kernel_rfl) ?_ ?_ ?_
               rotate_left
               · rfl
               · (intro x hSx; (try dsimp only at hSx); go_simp <;> with_reducible rfl)
               simp only [Act.put, List.setIfInBounds_toArray, List.set_cons_zero, List.set_cons_succ])
            | (refine h_skip (i := 4) hHeld rfl (by kernel_rfl) (by kernel_rfl) (by kernel_rfl) ?_ ?_
               · rfl
               simp only [Act.put, List.setIfInBounds_toArray, List.set_cons_zero, List.set_cons_succ])
          first
            | (refine h_run (i := 5) (v := ?_) hHeld rfl (by kernel_rfl) (by kernel_rfl) (by kernel_rfl) ?_ ?_ ?_
               rotate_left
               · rfl
               · (intro x hSx; (try dsimp only at hSx); go_simp <;> with_reducible rfl)
               simp only [Act.put, List.setIfInBounds_toArray, List.set_cons_zero, List.set_cons_succ])
            | (refine h_skip (i := 5) hHeld rfl (by kernel_rfl) (by kernel_rfl) (by kernel_rfl) ?_ ?_
               · rfl
               simp only [Act.put, List.setIfInBounds_toArray, List.set_cons_zero, List.set_cons_succ])
          first
            | (refine h_run (i := 6) (v := ?_) hHeld rfl (by kernel_rfl) (by kernel_rfl) (by kernel_rfl) ?_ ?_ ?_
               rotate_left
               · rfl
               · (intro x hSx; (try dsimp only at hSx); go_simp <;> with_reducible rfl)
               simp only [Act.put, List.setIfInBounds_toArray, List.set_cons_zero, List.set_cons_succ])
            | (refine h_skip (i := 6) hHeld rfl (by kernel_rfl) (by kernel_rfl) (by kernel_rfl) ?_ ?_
               · rfl
               simp only [Act.put, List.setIfInBounds_toArray, List.set_cons_zero, List.set_cons_succ])
          clear hHeld
          refine h_call (i := 3) (fun y : World => blk y (w.heap.size + 1) = some (.cells #[.int .i64 (K : Nat), .int .i64 (C : Nat), .slice b NB cb] 188 (0, 0)) ∧ blk y w4.heap.size = some (.cells #[.int .i64 (R : Nat), .int .i64 (C : Nat), .slice (some ⟨g, 0, none⟩) N N] 188 (0, 0))) (fun _ h => h) (kO.out g i wr.drew hiR) rfl (by kernel_rfl) rfl ?_ ?_
          · go_simp <;> with_reducible rfl
          rintro e y0 ⟨rfl, hc0⟩
          have hG2 := Lib.hid (only_trans hG1d.out (only_of_below hc0 _))
          have hM2 := Lib.hid (hM1d.out.below hc0 hM1d.out.lt)
          refine ⟨_, rfl, (hS.out _ hG2.out).2, ?_⟩
          refine h_call (i := 7) (fun y : World => blk y (w.heap.size + 1) = some (.cells #[.int .i64 (K : Nat), .int .i64 (C : Nat), .slice b NB cb] 188 (0, 0)) ∧ blk y w4.heap.size = some (.cells #[.int .i64 (R : Nat), .int .i64 (C : Nat), .slice (some ⟨g, 0, none⟩) N N] 188 (0, 0))) (fun _ h => h) (kB.out k y0 hkK) rfl (by kernel_rfl) rfl ?_ ?_
          · go_simp <;> with_reducible rfl
          rintro e y1 ⟨rfl, hc1⟩
          have hG3 := Lib.hid (only_trans hG2.out (only_of_below hc1 _))
          have hM3 := Lib.hid (hM2.out.below hc1 hM2.out.lt)
          refine ⟨_, rfl, (hS.out _ hG3.out).2, ?_⟩
          clear hc0 hc1
          refine h_call (i := 8) (fun y : World => blk y (w.heap.size + 1) = some (.cells #[.int .i64 (K : Nat), .int .i64 (C : Nat), .slice b NB cb] 188 (0, 0)) ∧ blk y w4.heap.size = some (.cells #[.int .i64 (R : Nat), .int .i64 (C : Nat), .slice (some ⟨g, 0, none⟩) N N] 188 (0, 0))) (fun _ h => h) (m_mixby p g R C i d (rowA b C k) (G k) (mlP F G K i k) y1 (hpS.out y1 hG3.out) hpg hM3.out (mlP_bd F G K i k) hvb hiR hd (hBr.out y1 hG3.out k hkK) (fun b' off he h0 => by have := hBB.out k hkK b' off he h0; omega) hR hC) rfl (by kernel_rfl) rfl ?_ ?_
          · go_simp <;> with_reducible rfl
          rintro e y2 ⟨rfl, hm9, hg9⟩
          have hG4 := Lib.hid (only_trans hG3.out hg9)
          have hM4 := Lib.hid (hm9.congr (fun r c _ _ => hnx.out r c))
          refine ⟨_, rfl, (hS.out _ hG4.out).2, ?_⟩
          refine h_done (by kernel_rfl) ?_
          clear hm9 hg9
          go_wp2_with fail
          go_roundw
          case rel => exact ⟨k + 1, by omega, by go_num, hM4, hG4⟩
          case measure => simp [intOf]; omega
        · obtain rfl : k = K := by omega
          have i2 : decide ((k : Int) < (k : Int)) = false := by simp
          have hM2 := Lib.hid (hM1.out.congr (fun r c _ _ => mlP_row F G k i r c))
          go_wp2_with fail
          go_roundw
          case rel => exact ⟨i + 1, by omega, by go_num, hM2, hG1⟩
          case measure => simp [intOf]; omega
    · obtain rfl : i = R := by omega
      have i1 : decide ((i : Int) < (i : Int)) = false := by simp
      have hMf := Lib.hid (hM0.out.congr (fun r c hr _ => mlP_end F G K i r c hr))
      have b0 := (hS.out wr hG0.out).2.2
      have hr0 := (hG0.out.block (w.heap.size + 2) (by omega) (by intro e; injection e with e; omega)).trans ((hbX.out.block _ hx2).trans h2h.out)
      have hr0b := blk_of hr0
      have hr0h := Lib.hid hr0
      have hB9 := Lib.hid (hBh.out.trans (below_grown (hbX.out.mono hwW) hwW hG0.out (fun q hq => by cases hq; omega) : Below w.heap.size W wr))
      have hgw2 : g ≠ w.heap.size + 2 := by omega
      clear hr0
      go_wp2_with fail
      refine bodyPost_ret (v := .tuple #[.agg #[.int .i64 (i : Nat), .int .i64 (C : Nat), .slice (some ⟨g, 0, none⟩) N N], .int .i64 0]) (results_row_tmp rfl _ _ (w.heap.size + 2) 188 _ (0, 0) _ _ rfl rfl (setRow_heap _ _ _ _ _ _ hr0h.out) Try.underlying188 rfl mx_info) rfl ?hpost
      case hpost => exact ⟨g, by rw [hNh.out], by omega, hMf.out.stay (setRow_other _ _ _ _ hgw2), below_setRow hB9.out (by omega) _⟩
end Go.Proofs.Ytmfagdbocidfjaa
