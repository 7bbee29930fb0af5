/- TrackWrites: the walk. -/
import Derived.Test.YtelfihgkbbaifaaCodes
namespace Go.Proofs.Ytelfihgkbbaifaa
open Go.RowKit
theorem put_fit {t : List Rec} {x : Rec} (hf : Fit t) (hn : t.length + 1 ≤ 1048576) (hl : x.key.length ≤ 1073741824 ∧ x.data.length ≤ 1073741824) : (putR t x).length ≤ 1048576 := by
  unfold putR
  split
  · exact (Fit.put hf hn hl).1
  · simp
theorem rep_len {t : List Rec} {x : Rec} : (repR t x).length ≤ t.length := by
  unfold repR
  split
  · rw [List.length_set]; exact Nat.le_refl _
  · simp
section
variable {W w : World} {F : List SA}
set_option maxRecDepth 100000 in
set_option maxHeartbeats 8000000 in
theorem writes_any (A : Option Addr) (t : List Rec) (c : Nat) (x : Rec) (Ak Ad : Option Addr) (ck cd : Nat) (w : World) (hr : RecsAt w A t) (hf : Fit t) (hn : t.length + 1 ≤ 1048576) (hk : CardAt w Ak x.key ck) (hd : CardAt w Ad x.data cd) (hl : x.key.length ≤ 1073741824 ∧ x.data.length ≤ 1073741824) :
    Calls Try.prog 18 #[.slice A t.length c, .agg #[.int .i64 x.r, .slice Ak x.key.length ck, .slice Ad x.data.length cd, .bool x.bad]] w fun e w' => e = .returned (.bool true) ∧ Below w.heap.size w w' := by
  have HR := Lib.hid hr
  have HF := Lib.hid hf
  have HC := Lib.hid (And.intro hk (And.intro hd hl))
  have HPL := Lib.hid (put_fit hf hn hl)
  have HRL := Lib.hid (Nat.le_trans (rep_len (t := t) (x := x)) (by omega : t.length ≤ 1048576))
  clear hr hf hk hd hl
  go_enter Try.func18, Try.ntmps18
  have H0 := Lib.hid ((SL.start w).allocC #[.int .i64 x.r, .slice Ak x.key.length ck, .slice Ad x.data.length cd, .bool x.bad] 25)
  go_wp2_with fail
  refine (put_any A t c x Ak Ad ck cd H0.out (HR.out.grow H0.out.below) HF.out hn (HC.out.1.grow H0.out.below) (HC.out.2.1.grow H0.out.below) HC.out.2.2).mono ?_
  rintro e w1 ⟨A1, c1, rfl, S1⟩
  have H1 := Lib.hid S1
  clear S1 H0
  generalize w.heap.size = xb at *
  obtain ⟨L, K, z⟩ := H1.out.s1.look
  go_wp2_with fail
  refine (rput_any A t c x Ak Ad ck cd H1.out (HR.out.grow H1.out.below) HF.out hn (HC.out.1.grow H1.out.below) (HC.out.2.1.grow H1.out.below) HC.out.2.2).mono ?_
  rintro e w2 ⟨A2, c2, rfl, S2⟩
  have H2 := Lib.hid S2
  clear S2 H1 L K z
  obtain ⟨L, K, z⟩ := H2.out.s2.look
  go_wp2_with fail
  refine (replace_any A t c x Ak Ad ck cd H2.out (HR.out.grow H2.out.below) HF.out (HC.out.1.grow H2.out.below) (HC.out.2.1.grow H2.out.below) HC.out.2.2).mono ?_
  rintro e w3 ⟨A3, c3, rfl, S3⟩
  have H3 := Lib.hid S3
  clear S3 H2 L K z
  obtain ⟨L, K, z⟩ := H3.out.s3.look
  go_wp2_with fail
  refine (rreplace_any A t c x Ak Ad ck cd H3.out (HR.out.grow H3.out.below) HF.out (HC.out.1.grow H3.out.below) (HC.out.2.1.grow H3.out.below) HC.out.2.2).mono ?_
  rintro e w4 ⟨A4, c4, rfl, S4⟩
  have H4 := Lib.hid S4
  clear S4 H3 L K z
  generalize putR t x = pl at *
  generalize repR t x = rl at *
  generalize putE t x = pe at *
  generalize repE t x = re at *
  have hb1 : ((pe : Int) == (pe : Int)) = true := by simp
  have hb2 : ((re : Int) == (re : Int)) = true := by simp
  go_wp2_with fail
  refine (same_any A1 A2 pl c1 c2 w4 (recsS_at H4.out.s3) (recsS_at H4.out.s2) HPL.out).mono ?_
  rintro e w5 ⟨rfl, b5⟩
  have H5 := Lib.hid (H4.out.grow b5)
  clear b5 H4
  go_wp2_with fail
  refine (same_any A3 A4 rl c3 c4 w5 (recsS_at H5.out.s1) (recsS_at H5.out) HRL.out).mono ?_
  rintro e w6 ⟨rfl, b6⟩
  have H6 := Lib.hid (H5.out.grow b6)
  clear b6 H5
  go_wp2
  go_ret
  exact ⟨rfl, H6.out.below⟩
set_option maxRecDepth 100000 in
set_option maxHeartbeats 16000000 in
theorem walk_trackWrites (W : World) (A : Option Addr) (l : List Rec) (c : Nat) (hl : l.length ≤ c) (hcm : c ≤ maxLen) (hat : RecsAt W A l) (r : Int) (k d : CardV) (bad : Bool) (_wr : (Lit.int .i64 r).wf = true) (gk : CardV.good W W.heap.size k) (gd : CardV.good W W.heap.size d) (n : UInt8) :
    Calls Try.prog 5 #[.slice A l.length c, .agg #[.int .i64 r, cardV k, cardV d, .bool bad], .int .u8 (n.toNat : Int)] W fun e W' => e = .returned (.bool true) ∧ Below W.heap.size W W' := by
  obtain ⟨Ak, key, ck⟩ := k
  obtain ⟨Ad, data, cd⟩ := d
  have HK := Lib.hid (show CardAt W Ak key ck from gk)
  have HD := Lib.hid (show CardAt W Ad data cd from gd)
  have HR := Lib.hid hat
  have HM := Lib.hid (Nat.le_trans hl hcm)
  clear gk gd hat hl hcm
  simp only [cardV]
  have hn := n.toNat_lt
  go_enter Try.func5, Try.ntmps5
  have H0 := Lib.hid ((SL.start W).allocC #[.int .i64 r, .slice Ak key.length ck, .slice Ad data.length cd, .bool bad] 25)
  go_wp2_with fail
  refine (track_any A l c H0.out (RecsB.base HR.out _) HM.out).mono ?_
  rintro e w1 ⟨A1, c1, rfl, S1⟩
  have H1 := Lib.hid S1.s1
  clear S1 H0
  generalize W.heap.size = xb at *
  obtain ⟨L, K, z⟩ := H1.out.look
  go_wp2_with fail
  refine (few1_any ⟨r, key, data, bad⟩ Ak Ad _ _ ck cd rfl rfl H1.out HK.out HD.out).mono ?_
  rintro e w2 ⟨g, c2, Bk, dk, Bd, dd, rfl, S2, k0, k1, k2, k3, hbk, hbd⟩
  obtain ⟨x, hx⟩ : ∃ x, x = cutR 300 2100 ⟨r, key, data, bad⟩ := ⟨_, rfl⟩
  rw [← hx] at k1 k2 hbk hbd
  have hxr : r = x.r := by rw [hx]; rfl
  have hxb : bad = x.bad := by rw [hx]; rfl
  have HXL := Lib.hid (show x.key.length ≤ 300 ∧ x.data.length ≤ 2100 by rw [hx]; exact cutR_len _)
  have hxk : Rec.r (⟨r, key, data, bad⟩ : Rec) = x.r := hxr
  have H2 := Lib.hid S2
  have HBK := Lib.hid hbk
  have HBD := Lib.hid hbd
  clear S2 H1 L K z hbk hbd hx
  dsimp only at k0 k3
  subst hxr; subst hxb
  clear hxk
  go_upto_region 5 with fail
  refine name_world (P := Code.wp _ _ _ _) ?_
  intro w3 hw3
  have h3 := (H2.out.allocC #[.int .i64 x.r, .slice Bk x.key.length dk, .slice Bd x.data.length dd, .bool x.bad] 25).allocC #[.int .i64 (n.toNat : Int), .slice Bk x.key.length dk, .slice Bd x.data.length dd, .bool x.bad] 25
  simp only [World.size_alloc] at h3
  have H3 := Lib.hid (SL.cast hw3 h3)
  clear h3 hw3 k0 k1 k2 k3 H2
  generalize w2.heap.size + 1 = yb at *
  generalize w2.heap.size = zb at *
  obtain ⟨t, ht⟩ : ∃ t, t = trackL l := ⟨_, rfl⟩
  have HFT := Lib.hid (show ∀ y : Rec, y.key.length ≤ 300 ∧ y.data.length ≤ 2100 → Fit (t ++ [y]) by rw [ht]; exact trackL_fit l)
  have HFF := Lib.hid (fewL_fit l x HXL.out)
  rw [← ht] at H3 ⊢
  clear ht
  have HV := Lib.hid (show ∀ y : Rec, y.key.length ≤ 300 ∧ y.data.length ≤ 2100 → Fit t from fun y hy => Fit.left (HFT.out y hy))
  have HFL := Lib.hid (Fit.left HFF.out)
  have HN1 := Lib.hid (show (fewL l).length + 1 ≤ 1048576 by have := HFF.out.1; simpa using this)
  have HFTL := Lib.hid (Fit.left (HFT.out x HXL.out))
  have hn1 : t.length + 1 ≤ 1048576 := by have := (HFT.out x HXL.out).1; simpa using this
  refine wp_region_stages (SL W _) [0] [([2], [1]), ([], [3, 4, 5]), ([6, 7], [8, 9, 10, 11]), ([12, 13], [14, 15])] [16] (by kernel_rfl) (by kernel_rfl) H3.out.drew (by intro c a d v w h; cases d <;> exact h) ?_
  simp only [pick, List.filterMap_cons, List.filterMap_nil, List.getElem?_cons_zero, List.getElem?_cons_succ]
  (repeat (with_reducible refine wpPure_step ?_; intro K hK; go_simp; with_reducible refine hK _ ?_; clear hK K))
  refine wpPure_nil ?_
  (with_reducible refine wpStages_step (H3.out.drew) ?_); simp only [pick, List.filterMap_cons, List.filterMap_nil, List.getElem?_cons_zero, List.getElem?_cons_succ]
  (repeat (with_reducible refine wpLoads_step ?_; intro K hK; go_simp; first | (with_reducible refine hK _ ?_; clear hK K) | (rw [if_neg (by decide)]; with_reducible refine hK _ ?_; clear hK K) | (refine ⟨_, fun wx hx => (by obtain ⟨f0, f1, f2⟩ := hx.s1.look; go_simp; with_reducible rfl), hK _ ?_⟩; clear hK K) | (refine ⟨_, fun _ _ => rfl, hK _ ?_⟩; clear hK K))); with_reducible refine wpLoads_nil ?_
  (with_reducible refine wpKeep_step ?_; intro K hK; go_simp)
  refine (few_any A l c H3.out.drew (RecsB.base HR.out _) HM.out).mono ?_
  rintro e w4 ⟨A4, c4, rfl, ps, hps, S4, hv4⟩
  have H4 := Lib.hid S4
  have HR4 := Lib.hid (show RecsAt w4 A4 (fewL l) by rw [← hps]; exact recs_at' S4 (fun p hp => (hv4 p hp).grow S4.below))
  refine hK _ _ S4.drop ?_
  clear hK K S4 hps hv4
  refine wpKeep_nil ?_
  (with_reducible refine wpStages_step (H4.out.drop) ?_); simp only [pick, List.filterMap_cons, List.filterMap_nil, List.getElem?_cons_zero, List.getElem?_cons_succ]
  refine wpLoads_nil ?_
  (with_reducible refine wpKeep_step ?_; intro K hK; go_simp)
  refine (writes_any A4 (fewL l) c4 x Bk Bd dk dd w4 HR4.out HFL.out HN1.out (HBK.out.grow H4.out.below) (HBD.out.grow H4.out.below) (by have := HXL.out; omega)).mono ?_
  rintro e w5 ⟨rfl, b5⟩
  have H5 := Lib.hid (H4.out.drop.grow b5)
  clear b5 H4 HR4
  refine hK _ _ H5.out ?_
  clear hK K
  (with_reducible refine wpKeep_step ?_; intro K hK; go_simp; first | (with_reducible refine hK _ _ (H5.out) ?_; clear hK K) | (rw [if_neg (by decide)]; with_reducible refine hK _ _ (H5.out) ?_; clear hK K))
  (with_reducible refine wpKeep_step ?_; intro K hK; go_simp; first | (with_reducible refine hK _ _ (H5.out) ?_; clear hK K) | (rw [if_neg (by decide)]; with_reducible refine hK _ _ (H5.out) ?_; clear hK K))
  refine wpKeep_nil ?_
  (with_reducible refine wpStages_step (H5.out) ?_); simp only [pick, List.filterMap_cons, List.filterMap_nil, List.getElem?_cons_zero, List.getElem?_cons_succ]
  (repeat (with_reducible refine wpLoads_step ?_; intro K hK; go_simp; first | (with_reducible refine hK _ ?_; clear hK K) | (rw [if_neg (by decide)]; with_reducible refine hK _ ?_; clear hK K) | (refine ⟨_, fun wx hx => (by obtain ⟨f0, f1, f2⟩ := hx.s1.look; go_simp; with_reducible rfl), hK _ ?_⟩; clear hK K) | (refine ⟨_, fun _ _ => rfl, hK _ ?_⟩; clear hK K))); with_reducible refine wpLoads_nil ?_
  (with_reducible refine wpKeep_step ?_; intro K hK; go_simp)
  refine (writes_any A1 t c1 x Bk Bd dk dd w5 (recsS_at H5.out.s3) HFTL.out hn1 (HBK.out.grow H5.out.below) (HBD.out.grow H5.out.below) (by have := HXL.out; omega)).mono ?_
  rintro e w6 ⟨rfl, b6⟩
  have H6 := Lib.hid (H5.out.grow b6)
  clear b6 H5
  refine hK _ _ H6.out ?_
  clear hK K
  (with_reducible refine wpKeep_step ?_; intro K hK; go_simp; first | (with_reducible refine hK _ _ (H6.out) ?_; clear hK K) | (rw [if_neg (by decide)]; with_reducible refine hK _ _ (H6.out) ?_; clear hK K))
  (with_reducible refine wpKeep_step ?_; intro K hK; go_simp; first | (with_reducible refine hK _ _ (H6.out) ?_; clear hK K) | (rw [if_neg (by decide)]; with_reducible refine hK _ _ (H6.out) ?_; clear hK K))
  (with_reducible refine wpKeep_step ?_; intro K hK; go_simp; first | (with_reducible refine hK _ _ (H6.out) ?_; clear hK K) | (rw [if_neg (by decide)]; with_reducible refine hK _ _ (H6.out) ?_; clear hK K))
  refine wpKeep_nil ?_
  (with_reducible refine wpStages_step (H6.out) ?_); simp only [pick, List.filterMap_cons, List.filterMap_nil, List.getElem?_cons_zero, List.getElem?_cons_succ]
  (repeat (with_reducible refine wpLoads_step ?_; intro K hK; go_simp; first | (with_reducible refine hK _ ?_; clear hK K) | (rw [if_neg (by decide)]; with_reducible refine hK _ ?_; clear hK K) | (refine ⟨_, fun wx hx => (by obtain ⟨f0, f1, f2⟩ := hx.look; go_simp; with_reducible rfl), hK _ ?_⟩; clear hK K) | (refine ⟨_, fun _ _ => rfl, hK _ ?_⟩; clear hK K))); with_reducible refine wpLoads_nil ?_
  (with_reducible refine wpKeep_step ?_; intro K hK; go_simp)
  refine (writes_any A1 t c1 ⟨(n.toNat : Int), x.key, x.data, x.bad⟩ Bk Bd dk dd w6 (recsS_at H6.out.s3) HFTL.out hn1 (HBK.out.grow H6.out.below) (HBD.out.grow H6.out.below) (by have := HXL.out; show x.key.length ≤ _ ∧ x.data.length ≤ _; omega)).mono ?_
  rintro e w7 ⟨rfl, b7⟩
  have H7 := Lib.hid (H6.out.grow b7)
  clear b7 H6
  refine hK _ _ H7.out ?_
  clear hK K
  (with_reducible refine wpKeep_step ?_; intro K hK; go_simp; first | (with_reducible refine hK _ _ (H7.out) ?_; clear hK K) | (rw [if_neg (by decide)]; with_reducible refine hK _ _ (H7.out) ?_; clear hK K))
  refine wpKeep_nil ?_
  (with_reducible refine wpStages_nil ?_); simp only [pick, List.filterMap_cons, List.filterMap_nil, List.getElem?_cons_zero, List.getElem?_cons_succ]
  by_cases ht0 : t.length = 0
  · have t0 : ((t.length : Int) == 0) = true := by rw [beq_iff_eq]; omega
    clear ht0
    go_wp2_with fail
    refine (works_any _).mono ?_
    rintro e w8 ⟨rfl, b8⟩
    have H8 := Lib.hid (H7.out.grow b8)
    clear b8 H7
    go_wp2
    go_ret
    exact ⟨rfl, H8.out.below⟩
  have t0 : ((t.length : Int) == 0) = false := by rw [beq_eq_false_iff_ne]; omega
  obtain ⟨j, hj⟩ : ∃ j, j = n.toNat % t.length := ⟨_, rfl⟩
  have hjl : j < t.length := by rw [hj]; exact Nat.mod_lt _ (by omega)
  have hjm : ((n.toNat : Int)).tmod (t.length : Int) = (j : Int) := by rw [hj]; rfl
  have hy : t[j]? = some t[j] := by simp [hjl]
  have HYL := Lib.hid ((HFTL.out).2 t[j] (List.getElem_mem hjl))
  have HYS := Lib.hid (trackL_size l)
  generalize t[j] = y at *
  obtain ⟨gt, ot, Ck, ek, Cd, ed, hA, m0, m1, m2, m3, b1, b2⟩ := recsS_at H7.out.s3 j y hy
  subst hA
  have HCK := Lib.hid b1
  have HCD := Lib.hid b2
  clear b1 b2 hy hj
  go_wp2_with fail
  refine (one_any y Ck Cd ek ed H7.out HCK.out HCD.out (by have := HYL.out; omega)).mono ?_
  rintro e w8 ⟨vk, vd, rfl, S8⟩
  obtain ⟨Av, cv, rfl, _, _⟩ := own_slice S8.s1.own
  obtain ⟨Au, cu, rfl, _, _⟩ := own_slice S8.own
  have H8 := Lib.hid S8
  clear S8 H7 m0 m1 m2 m3
  go_upto_region 12 with fail
  refine name_world (P := Code.wp _ _ _ _) ?_
  intro w9 hw9
  have H9 := Lib.hid (SL.cast hw9 (H8.out.allocC #[.int .i64 y.r, .slice Au y.key.length cu, .slice Av y.data.length cv, .bool (!y.bad)] 25)).s2
  clear hw9 H8
  generalize w8.heap.size = lb at *
  have hyb : y.data.length ≤ 1073741824 := HYL.out.2
  go_loopw [60] (fun i wr => ∃ k : Nat, k ≤ y.data.length ∧ i = .int .i64 k ∧ SL W (rowS 5 1 (.slice Av y.data.length cv) y.data.length (Lib.byteCells ((y.data.take k).map (· + 1) ++ y.data.drop k)) :: cel lb #[.int .i64 y.r, .slice Au y.key.length cu, .slice Av y.data.length cv, .bool (!y.bad)] 25 :: rowS 5 1 (.slice Au y.key.length cu) y.key.length (Lib.byteCells y.key) :: _) wr) (fun i _ => y.data.length - (intOf i).toNat)
  case atStart => exact ⟨0, Nat.zero_le _, rfl, by simpa using H9.out⟩
  case round =>
    obtain ⟨k, hk, rfl, S2⟩ := hrel
    have H2 := Lib.hid S2
    clear S2 H9
    by_cases hlt : k < y.data.length
    · have HLT := Lib.hid hlt
      have hll : ((y.data.take k).map (· + 1) ++ y.data.drop k).length = y.data.length := by rw [List.length_append, List.length_map, List.length_take, List.length_drop]; omega
      obtain ⟨g2, u, hA2, hu, mc, mf, zg, SET⟩ := row_set hlt H2.out
      subst hA2
      have hd0 : ((y.data.take k).map (· + 1) ++ y.data.drop k)[k]? = some y.data[k] := by
        rw [List.getElem?_append_right (by rw [List.length_map, List.length_take]; omega), List.length_map, List.length_take, Nat.min_eq_left (by omega), Nat.sub_self, List.getElem?_drop, Nat.add_zero]
        exact List.getElem?_eq_getElem hlt
      have hset : ((y.data.take k).map (· + 1) ++ y.data.drop k).set k (y.data[k] + 1) = (y.data.take (k + 1)).map (· + 1) ++ y.data.drop (k + 1) := by
        rw [List.set_append_right _ _ (by rw [List.length_map, List.length_take]; omega), List.length_map, List.length_take, Nat.min_eq_left (by omega), Nat.sub_self, List.drop_eq_getElem_cons hlt, List.set_cons_zero, List.take_add_one, List.getElem?_eq_getElem hlt, List.map_append, List.append_assoc]
        rfl
      have hu2 : u = .int .u8 (y.data[k].toNat : Int) := by
        rw [Lib.byteCells, List.getElem?_map, hd0] at hu
        simpa using hu.symm
      subst hu2
      have HZ := Lib.hid (show ((y.data[k] + 1).toNat : Int) = ((y.data[k].toNat : Int) + 1) % 256 by rw [UInt8.toNat_add, show (1 : UInt8).toNat = 1 from rfl]; omega)
      have H3 := Lib.hid (SET (.int .u8 ((y.data[k] + 1).toNat : Int)))
      rw [byteCells_set, hset] at H3
      clear SET hset hd0 hu hll
      rw [HZ.out] at H3
      generalize (y.data[k].toNat : Int) = z at *
      obtain ⟨L, K, zl⟩ := H2.out.s1.look
      go_upto_region 14 with fail
      go_big_region
      go_wp2
      go_roundw
      case rel => exact ⟨k + 1, HLT.out, by go_num, H3.out.drew⟩
      case measure => have := HLT.out; simp [intOf]; omega
    · obtain rfl : k = y.data.length := by omega
      have hdd : (y.data.take y.data.length).map (· + 1) ++ y.data.drop y.data.length = y.data.map (· + 1) := by rw [List.take_of_length_le (Nat.le_refl _), List.drop_of_length_le (Nat.le_refl _), List.append_nil]
      rw [hdd] at H2
      clear hdd
      obtain ⟨L, K, zl⟩ := H2.out.s1.look
      have hdl : (y.data.map (· + 1)).length = y.data.length := List.length_map ..
      have hw := writes_any (some ⟨gt, ot, none⟩) t c1 ⟨y.r, y.key, y.data.map (· + 1), !y.bad⟩ Au Av cu cv wr (recsS_at H2.out.s6) HFTL.out hn1 (rowS_card H2.out.s2) (by have h := H2.out; rw [← hdl] at h; exact rowS_card h) (by show y.key.length ≤ _ ∧ _; rw [hdl]; have := HYL.out; omega)
      dsimp only at hw
      rw [hdl] at hw
      have HW := Lib.hid hw
      clear hw hdl
      go_wp2_with fail
      refine HW.out.mono ?_
      rintro e w10 ⟨rfl, b10⟩
      have H10 := Lib.hid (H2.out.grow b10)
      clear b10 H2 HW L K zl
      go_wp2_with fail
      refine (works_any _).mono ?_
      rintro e w11 ⟨rfl, b11⟩
      have H11 := Lib.hid (H10.out.grow b11)
      clear b11 H10
      go_wp2
      go_ret
      exact ⟨rfl, H11.out.below⟩
end
end Go.Proofs.Ytelfihgkbbaifaa
