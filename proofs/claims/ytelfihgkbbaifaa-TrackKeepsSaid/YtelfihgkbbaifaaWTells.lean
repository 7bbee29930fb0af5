/- TrackTells: the walk. -/
import Derived.Test.YtelfihgkbbaifaaWorks
import Derived.Test.YtelfihgkbbaifaaArgs
import Derived.Test.YtelfihgkbbaifaaStages
namespace Go.Proofs.Ytelfihgkbbaifaa
open Go.RowKit
theorem recsB_row {W : World} {F : List SA} {A : Option Addr} {n c : Nat} {ps : List RV} (hv : ∀ p ∈ ps, RecV W p) : RecsB W (rowS 25 4 (.slice A n c) n (ps.flatMap recCells) :: F) A (ps.map Prod.snd) := fun w S i x hx => by
  rw [List.getElem?_map] at hx
  cases hp : ps[i]? with
  | none => rw [hp] at hx; cases hx
  | some p =>
    rw [hp] at hx; injection hx with hx; subst hx
    have hc := fun k (hk : k < 4) => recCells_get ps i k p hp hk
    obtain ⟨g, hA, _, c0⟩ := S.cellAt (j := i * 4 + 0) (u := .int .i64 p.2.r) (by rw [hc 0 (by omega)]; rfl)
    obtain ⟨g1, hA1, _, c1⟩ := S.cellAt (j := i * 4 + 1) (u := p.1.1) (by rw [hc 1 (by omega)]; rfl)
    obtain ⟨g2, hA2, _, c2⟩ := S.cellAt (j := i * 4 + 2) (u := p.1.2) (by rw [hc 2 (by omega)]; rfl)
    obtain ⟨g3, hA3, _, c3⟩ := S.cellAt (j := i * 4 + 3) (u := .bool p.2.bad) (by rw [hc 3 (by omega)]; rfl)
    rw [hA] at hA1 hA2 hA3
    injection hA1 with hA1; injection hA1 with hA1; subst hA1
    injection hA2 with hA2; injection hA2 with hA2; subst hA2
    injection hA3 with hA3; injection hA3 with hA3; subst hA3
    obtain ⟨Ak, ck, Ad, cd, e, h1, h2⟩ := hv p (List.mem_iff_getElem?.2 ⟨i, hp⟩)
    rw [e] at c1 c2
    have e0 : ∀ k, (0 : Nat) + i * 4 + k = i * 4 + k := fun k => by omega
    exact ⟨g, 0, Ak, ck, Ad, cd, hA, by rw [show (0 : Nat) + i * 4 = i * 4 + 0 by omega]; exact c0, by rw [e0]; exact c1, by rw [e0]; exact c2, by rw [e0]; exact c3, h1, h2⟩
theorem fewL_fit (l : List Rec) (x : Rec) (hx : x.key.length ≤ 300 ∧ x.data.length ≤ 2100) : Fit (fewL l ++ [x]) := ⟨by simp [fewL]; omega, fun y hy => by
  rcases List.mem_append.1 hy with h | h
  · unfold fewL at h
    obtain ⟨z, _, rfl⟩ := List.mem_map.1 h
    simp [cutR]; omega
  · obtain rfl := List.mem_singleton.1 h
    omega⟩
theorem trackL_ok (l : List Rec) : TrackOk (trackS (l.take 40)) (l.take 40).length := by
  have h := trackOk (l.take 40) (l.take 40).length (Nat.le_refl _)
  rw [List.take_of_length_le (Nat.le_refl _)] at h
  exact h
theorem trackL_len (l : List Rec) : (trackL l).length ≤ 40 := by
  have h := (trackL_ok l).len
  have h2 : (l.take 40).length ≤ 40 := by rw [List.length_take]; omega
  exact Nat.le_trans h h2
theorem trackL_valid (l : List Rec) : validB (trackL l) = true := (trackL_ok l).valid
theorem trackL_size (l : List Rec) : ∀ x ∈ trackL l, x.key.length ≤ 255 ∧ x.data.length ≤ 2016 := (trackL_ok l).size
theorem trackL_fit (l : List Rec) (x : Rec) (hx : x.key.length ≤ 300 ∧ x.data.length ≤ 2100) : Fit (trackL l ++ [x]) := ⟨by have := trackL_len l; simp; omega, fun y hy => by
  rcases List.mem_append.1 hy with h | h
  · have := trackL_size l y h; omega
  · obtain rfl := List.mem_singleton.1 h; omega⟩
theorem cutR_len (x : Rec) : (cutR 300 2100 x).key.length ≤ 300 ∧ (cutR 300 2100 x).data.length ≤ 2100 := by simp [cutR]; omega
section
variable {W w : World} {F : List SA}
/-- Few of one record. -/
theorem few1_any (x : Rec) (Ak Ad : Option Addr) (nk nd ck cd : Nat) (e1 : x.key.length = nk) (e2 : x.data.length = nd) (S : SL W F w) (hk : CardAt W Ak x.key ck) (hd : CardAt W Ad x.data cd) :
    Calls Try.prog 12 #[.slice (some ⟨w.heap.size, 0, none⟩) 1 1] (w.alloc (.cells #[.int .i64 x.r, .slice Ak nk ck, .slice Ad nd cd, .bool x.bad] 25)) fun e w' =>
      ∃ g c' Bk dk Bd dd, e = .returned (.slice (some ⟨g, 0, none⟩) 1 c') ∧ SL W F w' ∧ w'.cell? ⟨g, 0, none⟩ = some (.int .i64 x.r) ∧ w'.cell? ⟨g, 1, none⟩ = some (.slice Bk (cutR 300 2100 x).key.length dk) ∧ w'.cell? ⟨g, 2, none⟩ = some (.slice Bd (cutR 300 2100 x).data.length dd) ∧ w'.cell? ⟨g, 3, none⟩ = some (.bool x.bad) ∧
        CardAt W Bk (cutR 300 2100 x).key dk ∧ CardAt W Bd (cutR 300 2100 x).data dd := by
  subst e1; subst e2
  have hv : ∀ p ∈ [((Value.slice Ak x.key.length ck, Value.slice Ad x.data.length cd), x)], RecV W p := all1 ⟨Ak, ck, Ad, cd, rfl, hk, hd⟩
  have h := few_any (some ⟨w.heap.size, 0, none⟩) [x] 1 (row_lit S [((Value.slice Ak x.key.length ck, Value.slice Ad x.data.length cd), x)] (by simp)) (recsB_row hv) (by unfold maxLen; simp)
  refine h.mono ?_
  rintro e w' ⟨A', c', he, ps, hps, S', hv'⟩
  have hl : ps.length = 1 := by have := congrArg List.length hps; simpa [fewL] using this
  obtain ⟨p, rfl⟩ : ∃ p, ps = [p] := by
    match ps, hl with
    | [p], _ => exact ⟨p, rfl⟩
  have hp : p.2 = cutR 300 2100 x := by have h := hps; simp [fewL] at h; exact h
  obtain ⟨Bk, dk, Bd, dd, e1, h1, h2⟩ := hv' p (by simp)
  obtain ⟨g, hA, _, k0⟩ := S'.cellAt (j := 0) (u := .int .i64 p.2.r) rfl
  obtain ⟨g1, hA1, _, k1⟩ := S'.cellAt (j := 1) (u := p.1.1) rfl
  obtain ⟨g2, hA2, _, k2⟩ := S'.cellAt (j := 2) (u := p.1.2) rfl
  obtain ⟨g3, hA3, _, k3⟩ := S'.cellAt (j := 3) (u := .bool p.2.bad) rfl
  subst hA
  injection hA1 with hA1; injection hA1 with hA1; subst hA1
  injection hA2 with hA2; injection hA2 with hA2; subst hA2
  injection hA3 with hA3; injection hA3 with hA3; subst hA3
  rw [hp] at k0 k3 h1 h2
  rw [e1, hp] at k1 k2
  exact ⟨g, c', Bk, dk, Bd, dd, he, S'.drop.drop, k0, k1, k2, k3, h1, h2⟩
set_option maxRecDepth 100000 in
set_option maxHeartbeats 16000000 in
theorem walk_trackTells (W : World) (A : Option Addr) (l : List Rec) (c : Nat) (hl : l.length ≤ c) (hcm : c ≤ maxLen) (hat : RecsAt W A l) (r : Int) (k d : CardV) (bad : Bool) (_wr : (Lit.int .i64 r).wf = true) (gk : CardV.good W W.heap.size k) (gd : CardV.good W W.heap.size d) (n : UInt8) :
    Calls Try.prog 3 #[.slice A l.length c, .agg #[.int .i64 r, cardV k, cardV d, .bool bad], .int .u8 (n.toNat : Int)] W fun e W' => e = .returned (.bool true) ∧ Below W.heap.size W W' := by
  obtain ⟨Ak, key, ck⟩ := k
  obtain ⟨Ad, data, cd⟩ := d
  have HK := Lib.hid (show CardAt W Ak key ck from gk)
  have HD := Lib.hid (show CardAt W Ad data cd from gd)
  have HR := Lib.hid hat
  have HM := Lib.hid (Nat.le_trans hl hcm)
  clear gk gd hat hl hcm
  simp only [cardV]
  have hn := n.toNat_lt
  go_enter Try.func3, Try.ntmps3
  have H0 := Lib.hid ((SL.start W).allocC #[.int .i64 r, .slice Ak key.length ck, .slice Ad data.length cd, .bool bad] 25)
  go_wp2_with fail
  refine (track_any A l c H0.out (RecsB.base HR.out _) HM.out).mono ?_
  rintro e w1 ⟨A1, c1, rfl, S1⟩
  have H1 := Lib.hid S1.s1
  clear S1 H0
  generalize W.heap.size = xb at *
  obtain ⟨L, K, z⟩ := H1.out.look
  go_wp2_with fail
  refine (few1_any ⟨r, key, data, bad⟩ Ak Ad _ _ ck cd rfl rfl H1.out HK.out HD.out).mono ?_
  rintro e w2 ⟨g, c2, Bk, dk, Bd, dd, rfl, S2, k0, k1, k2, k3, hbk, hbd⟩
  obtain ⟨x, hx⟩ : ∃ x, x = cutR 300 2100 ⟨r, key, data, bad⟩ := ⟨_, rfl⟩
  rw [← hx] at k1 k2 hbk hbd
  have hxr : r = x.r := by rw [hx]; rfl
  have hxb : bad = x.bad := by rw [hx]; rfl
  have HXL := Lib.hid (show x.key.length ≤ 300 ∧ x.data.length ≤ 2100 by rw [hx]; exact cutR_len _)
  have hxk : Rec.r (⟨r, key, data, bad⟩ : Rec) = x.r := hxr
  have H2 := Lib.hid S2
  have HBK := Lib.hid hbk
  have HBD := Lib.hid hbd
  clear S2 H1 L K z hbk hbd hx
  dsimp only at k0 k3
  subst hxr; subst hxb
  clear hxk
  go_upto_region 5 with fail
  refine name_world (P := Code.wp _ _ _ _) ?_
  intro w3 hw3
  have h3 := (H2.out.allocC #[.int .i64 x.r, .slice Bk x.key.length dk, .slice Bd x.data.length dd, .bool x.bad] 25).allocC #[.int .i64 (n.toNat : Int), .slice Bk x.key.length dk, .slice Bd x.data.length dd, .bool x.bad] 25
  simp only [World.size_alloc] at h3
  have H3 := Lib.hid (SL.cast hw3 h3)
  clear h3 hw3 k0 k1 k2 k3 H2
  generalize w2.heap.size + 1 = yb at *
  generalize w2.heap.size = zb at *
  obtain ⟨t, ht⟩ : ∃ t, t = trackL l := ⟨_, rfl⟩
  have HFT := Lib.hid (show ∀ y : Rec, y.key.length ≤ 300 ∧ y.data.length ≤ 2100 → Fit (t ++ [y]) by rw [ht]; exact trackL_fit l)
  have HFF := Lib.hid (fewL_fit l x HXL.out)
  rw [← ht] at H3 ⊢
  clear ht
  refine wp_region_stages (SL W _) [0] [([2], [1]), ([], [3, 4]), ([5, 6], [7, 8, 9]), ([10, 11], [12, 13, 14]), ([], [15, 16])] [17] (by kernel_rfl) (by kernel_rfl) H3.out.drew (by intro c a d v w h; cases d <;> exact h) ?_
  simp only [pick, List.filterMap_cons, List.filterMap_nil, List.getElem?_cons_zero, List.getElem?_cons_succ]
  (repeat (with_reducible refine wpPure_step ?_; intro K hK; go_simp; with_reducible refine hK _ ?_; clear hK K))
  refine wpPure_nil ?_
  (with_reducible refine wpStages_step (H3.out.drew) ?_); simp only [pick, List.filterMap_cons, List.filterMap_nil, List.getElem?_cons_zero, List.getElem?_cons_succ]
  (repeat (with_reducible refine wpLoads_step ?_; intro K hK; go_simp; first | (with_reducible refine hK _ ?_; clear hK K) | (rw [if_neg (by decide)]; with_reducible refine hK _ ?_; clear hK K) | (refine ⟨_, fun wx hx => (by obtain ⟨f0, f1, f2⟩ := hx.s1.look; go_simp; with_reducible rfl), hK _ ?_⟩; clear hK K) | (refine ⟨_, fun _ _ => rfl, hK _ ?_⟩; clear hK K))); with_reducible refine wpLoads_nil ?_
  (with_reducible refine wpKeep_step ?_; intro K hK; go_simp)
  refine (few_any A l c H3.out.drew (RecsB.base HR.out _) HM.out).mono ?_
  rintro e w4 ⟨A4, c4, rfl, ps, hps, S4, hv4⟩
  have H4 := Lib.hid S4
  have HR4 := Lib.hid (show RecsAt w4 A4 (fewL l) by rw [← hps]; exact recs_at' S4 (fun p hp => (hv4 p hp).grow S4.below))
  refine hK _ _ S4.drop ?_
  clear hK K S4 hps hv4
  refine wpKeep_nil ?_
  (with_reducible refine wpStages_step (H4.out.drop) ?_); simp only [pick, List.filterMap_cons, List.filterMap_nil, List.getElem?_cons_zero, List.getElem?_cons_succ]
  refine wpLoads_nil ?_
  (with_reducible refine wpKeep_step ?_; intro K hK; go_simp)
  refine (tells_any A4 (fewL l) c4 x Bk Bd dk dd w4 HR4.out HFF.out (HBK.out.grow H4.out.below) (HBD.out.grow H4.out.below)).mono ?_
  rintro e w5 ⟨rfl, b5⟩
  have H5 := Lib.hid (H4.out.drop.grow b5)
  clear b5 H4 HR4
  refine hK _ _ H5.out ?_
  clear hK K
  (with_reducible refine wpKeep_step ?_; intro K hK; go_simp; first | (with_reducible refine hK _ _ (H5.out) ?_; clear hK K) | (rw [if_neg (by decide)]; with_reducible refine hK _ _ (H5.out) ?_; clear hK K))
  refine wpKeep_nil ?_
  (with_reducible refine wpStages_step (H5.out) ?_); simp only [pick, List.filterMap_cons, List.filterMap_nil, List.getElem?_cons_zero, List.getElem?_cons_succ]
  (repeat (with_reducible refine wpLoads_step ?_; intro K hK; go_simp; first | (with_reducible refine hK _ ?_; clear hK K) | (rw [if_neg (by decide)]; with_reducible refine hK _ ?_; clear hK K) | (refine ⟨_, fun wx hx => (by obtain ⟨f0, f1, f2⟩ := hx.s1.look; go_simp; with_reducible rfl), hK _ ?_⟩; clear hK K) | (refine ⟨_, fun _ _ => rfl, hK _ ?_⟩; clear hK K))); with_reducible refine wpLoads_nil ?_
  (with_reducible refine wpKeep_step ?_; intro K hK; go_simp)
  refine (tells_any A1 t c1 x Bk Bd dk dd w5 (recsS_at H5.out.s3) (HFT.out x HXL.out) (HBK.out.grow H5.out.below) (HBD.out.grow H5.out.below)).mono ?_
  rintro e w6 ⟨rfl, b6⟩
  have H6 := Lib.hid (H5.out.grow b6)
  clear b6 H5
  refine hK _ _ H6.out ?_
  clear hK K
  (with_reducible refine wpKeep_step ?_; intro K hK; go_simp; first | (with_reducible refine hK _ _ (H6.out) ?_; clear hK K) | (rw [if_neg (by decide)]; with_reducible refine hK _ _ (H6.out) ?_; clear hK K))
  (with_reducible refine wpKeep_step ?_; intro K hK; go_simp; first | (with_reducible refine hK _ _ (H6.out) ?_; clear hK K) | (rw [if_neg (by decide)]; with_reducible refine hK _ _ (H6.out) ?_; clear hK K))
  refine wpKeep_nil ?_
  (with_reducible refine wpStages_step (H6.out) ?_); simp only [pick, List.filterMap_cons, List.filterMap_nil, List.getElem?_cons_zero, List.getElem?_cons_succ]
  (repeat (with_reducible refine wpLoads_step ?_; intro K hK; go_simp; first | (with_reducible refine hK _ ?_; clear hK K) | (rw [if_neg (by decide)]; with_reducible refine hK _ ?_; clear hK K) | (refine ⟨_, fun wx hx => (by obtain ⟨f0, f1, f2⟩ := hx.look; go_simp; with_reducible rfl), hK _ ?_⟩; clear hK K) | (refine ⟨_, fun _ _ => rfl, hK _ ?_⟩; clear hK K))); with_reducible refine wpLoads_nil ?_
  (with_reducible refine wpKeep_step ?_; intro K hK; go_simp)
  refine (tells_any A1 t c1 ⟨(n.toNat : Int), x.key, x.data, x.bad⟩ Bk Bd dk dd w6 (recsS_at H6.out.s3) (HFT.out _ HXL.out) (HBK.out.grow H6.out.below) (HBD.out.grow H6.out.below)).mono ?_
  rintro e w7 ⟨rfl, b7⟩
  have H7 := Lib.hid (H6.out.grow b7)
  clear b7 H6
  refine hK _ _ H7.out ?_
  clear hK K
  (with_reducible refine wpKeep_step ?_; intro K hK; go_simp; first | (with_reducible refine hK _ _ (H7.out) ?_; clear hK K) | (rw [if_neg (by decide)]; with_reducible refine hK _ _ (H7.out) ?_; clear hK K))
  (with_reducible refine wpKeep_step ?_; intro K hK; go_simp; first | (with_reducible refine hK _ _ (H7.out) ?_; clear hK K) | (rw [if_neg (by decide)]; with_reducible refine hK _ _ (H7.out) ?_; clear hK K))
  refine wpKeep_nil ?_
  (with_reducible refine wpStages_step (H7.out) ?_); simp only [pick, List.filterMap_cons, List.filterMap_nil, List.getElem?_cons_zero, List.getElem?_cons_succ]
  refine wpLoads_nil ?_
  (with_reducible refine wpKeep_step ?_; intro K hK; go_simp)
  refine (works_any _).mono ?_
  rintro e w8 ⟨rfl, b8⟩
  have H8 := Lib.hid (H7.out.grow b8)
  clear b8 H7
  refine hK _ _ H8.out ?_
  clear hK K
  (with_reducible refine wpKeep_step ?_; intro K hK; go_simp; first | (with_reducible refine hK _ _ (H8.out) ?_; clear hK K) | (rw [if_neg (by decide)]; with_reducible refine hK _ _ (H8.out) ?_; clear hK K))
  refine wpKeep_nil ?_
  (with_reducible refine wpStages_nil ?_); simp only [pick, List.filterMap_cons, List.filterMap_nil, List.getElem?_cons_zero, List.getElem?_cons_succ]
  go_wp2
  go_ret
  exact ⟨rfl, H8.out.below⟩
end
end Go.Proofs.Ytelfihgkbbaifaa
