/- TrackKeeps: the walk. -/
import Derived.Test.YtelfihgkbbaifaaKeep
import Derived.BigRegion
import Derived.Deep.CutBlock
import Derived.Deep.CutRange
namespace Go.Proofs.Ytelfihgkbbaifaa
open Go.RowKit
theorem len_used : ∀ l : List Rec, l.length ≤ usedN l
  | [] => by simp
  | x :: l => by
    have := len_used l
    simp only [usedN, List.map_cons, List.sum_cons, List.length_cons, Rec.cost, costN] at *; omega
theorem valid_len {t : List Rec} (hv : validB t = true) : t.length ≤ 2048 := Nat.le_trans (len_used t) (validB_iff.1 hv).2
theorem valid_fit2 {t : List Rec} (hv : validB t = true) : Fit t := by
  have := valid_len hv
  refine ⟨by omega, fun x hx => ?_⟩
  obtain ⟨k, hk⟩ := List.mem_iff_getElem?.1 hx
  have := valid_rec hv hk
  omega
def Kept (t ul : List Rec) (x : Rec) (q : Bool) : Prop := validB ul = true ∧ ∃ m, findN ul x.r = some m ∧ ul[m]? = some x ∧ (∀ j y, j ≠ m → ul[j]? = some y → t[j]? = some y) ∧ (q = true → ul.length = t.length) ∧ (q = false → ul.length = m + 1)
theorem put_kept {t : List Rec} {x : Rec} (he : putE t x = 0) : Kept t (putR t x) x false := by
  obtain ⟨e, hv, m, hl, hf, hm, ho⟩ := put_keeps he
  rw [e]
  exact ⟨hv, m, hf, hm, ho, (by intro h; cases h), fun _ => hl⟩
theorem rep_kept {t : List Rec} {x : Rec} (he : repE t x = 0) : Kept t (repR t x) x true := by
  obtain ⟨m, hv, hl, hf, hm, ho⟩ := rep_keeps he
  exact ⟨hv, m, hf, hm, ho, fun _ => hl, (by intro h; cases h)⟩
section
variable {W w : World} {F : List SA}
theorem box_ne {x g o n c : Nat} {cs : Array Value} {T : TypeId} {rs : List Rec} (h : rs.length ≠ 0) (S : SL W (cel x cs T :: recsS (.slice (some ⟨g, o, none⟩) n c) rs :: F) w) : x ≠ g := by
  obtain ⟨ps, rfl, S1⟩ := recsS_open S.s1
  rw [List.length_map] at h
  obtain ⟨y, _, cur, hv, _, _, _, _, S2⟩ := S1.rowCel (by omega)
  injection hv with ha _ _
  injection ha with ha; injection ha with ha
  subst ha
  exact (S2.s1.drop.cne).symm
theorem keep_box {wz : World} {xb g g1 o1 n c5 m dk nd : Nat} {rn : Int} {bad : Bool} {Bk : Option Addr} {y : Rec} {zs : List UInt8} {t : List Rec} (hz : zs.length = nd) (S1 : SL W (cel xb #[.int .i64 rn, .slice Bk y.key.length dk, .slice (some ⟨g, 0, none⟩) nd nd, .bool bad] 25 :: rowS 5 1 (.slice (some ⟨g, 0, none⟩) nd nd) nd (Lib.byteCells zs) :: recsS (.slice (some ⟨g1, o1, none⟩) n c5) t :: []) wz) (hy : t[m]? = some y) (k1 : wz.cell? ⟨g1, o1 + m * 4 + 1, none⟩ = some (.slice Bk y.key.length dk)) :
    SL W (cel xb #[.int .i64 rn, .slice Bk y.key.length dk, .slice (some ⟨g, 0, none⟩) zs.length nd, .bool bad] 25 :: recsS (.slice (some ⟨g1, o1, none⟩) n c5) t :: []) wz ∧ CardAt wz Bk y.key dk ∧ CardAt wz (some ⟨g, 0, none⟩) zs nd := by
  subst hz
  obtain ⟨g1', o1', Bk', dk', Bd', dd', hA', _, k1', _, _, a1', _⟩ := recsS_at S1.s2 m y hy
  injection hA' with hA'; injection hA' with hA' hA''; subst hA'; subst hA''
  rw [k1] at k1'
  injection k1' with k1'
  injection k1' with e1 _ e2
  subst e1; subst e2
  exact ⟨S1.s1.drop, a1', rowS_card S1.s1⟩
set_option maxRecDepth 100000 in
set_option maxHeartbeats 32000000 in
theorem walk_trackKeeps (W : World) (A : Option Addr) (l : List Rec) (c : Nat) (hl : l.length ≤ c) (hcm : c ≤ maxLen) (hat : RecsAt W A l) (A2 : Option Addr) (ws : List Bool) (c2 : Nat) (hl2 : ws.length ≤ c2) (hcm2 : c2 ≤ maxLen) (hat2 : At W W.heap.size A2 (ws.map Value.bool)) :
    Calls Try.prog 8 #[.slice A l.length c, .slice A2 ws.length c2] W fun e W' => e = .returned (.bool true) ∧ Below W.heap.size W W' := by
  have HR := Lib.hid hat
  have hfl : l.length ≤ 9223372036854775807 := by unfold maxLen at hcm; omega
  have hfl2 : ws.length ≤ 9223372036854775807 := by unfold maxLen at hcm2; omega
  have HB := Lib.hid hat2
  clear hat hat2 hl hcm hl2 hcm2
  go_enter Try.func8, Try.ntmps8
  go_wp2_with fail
  refine (works_any _).mono ?_
  rintro e w0 ⟨rfl, b0⟩
  have H0 := Lib.hid ((SL.start W).grow b0)
  clear b0
  go_wp2
  go_loopw [5, 6] (fun o i wr => ∃ (k : Nat) (t : List Rec) (A5 : Option Addr) (c5 : Nat), k ≤ l.length ∧ k ≤ 40 ∧ i = .int .i64 k ∧ o = .slice A5 t.length c5 ∧ validB t = true ∧ SL W (recsS (.slice A5 t.length c5) t :: []) wr) (fun _ i _ => l.length - (intOf i).toNat)
  case atStart => exact ⟨0, [], none, 0, Nat.zero_le _, by omega, rfl, rfl, rfl, recsS_close (ps := []) (H0.out.empty.nil _ _)⟩
  case round =>
    obtain ⟨k, t, A5, c5, hk, hk40, rfl, rfl, hv, S1⟩ := hrel
    have H1 := Lib.hid S1
    have HV := Lib.hid hv
    clear S1 H0 hv
    by_cases hlt : k < l.length ∧ k < 40
    · obtain ⟨hlt, hlt4⟩ := hlt
      have hb : l[k]? = some l[k] := by simp [hlt]
      generalize l[k] = x0 at hb
      obtain ⟨g, off, Ak, ck, Ad, cd, hA, k0, k1, k2, k3, a1, a2⟩ := (RecsB.base HR.out _) wr H1.out k x0 hb
      subst hA
      have HLT := Lib.hid hlt
      clear hb
      go_upto_region 8 with fail
      have hyk : min x0.key.length 40 = (x0.key.take 40).length := by simp [Nat.min_comm]
      have hyd : min x0.data.length 700 = (x0.data.take 700).length := by simp [Nat.min_comm]
      have HA1 := Lib.hid (a1.take 40)
      have HA2 := Lib.hid (a2.take 700)
      have HC1 := Lib.hid (fun wx => cut_any Ak x0.key.length ck 40 40 rfl wx a1.2.1 a1.2.2)
      have HC2 := Lib.hid (fun wx => cut_any Ad x0.data.length cd 700 700 rfl wx a2.2.1 a2.2.2)
      have HLB := Lib.hid (show (x0.key.take 40).length ≤ 40 ∧ (x0.data.take 700).length ≤ 700 by simp only [List.length_take]; omega)
      rw [hyk] at HC1
      rw [hyd] at HC2
      clear hyk hyd a1 a2
      generalize x0.key.take 40 = key2 at *
      generalize x0.data.take 700 = data2 at *
      refine name_world (P := Code.wp _ _ _ _) ?_
      intro wd hwd
      have H2 := Lib.hid (SL.cast hwd (H1.out.allocC #[.int .i64 x0.r, .slice Ak x0.key.length ck, .slice Ad x0.data.length cd, .bool x0.bad] 25))
      clear hwd H1 k0 k1 k2 k3
      generalize wr.heap.size = xb at *
      obtain ⟨L, K, z⟩ := H2.out.look
      obtain ⟨rn, hrn⟩ : ∃ rn, wrap64 (1 + wrap64 ((IntKind.u64.wrap x0.r).tmod 9)) = rn := ⟨_, rfl⟩
      refine wp_region_order (fun wx => wx = wd.drew) [] [] [0, 1, 2, 3, 4, 5, 6, 7, 8, 9, 10, 11, 12] [] [13, 14, 15, 16, 17] (by kernel_rfl) (by kernel_rfl) rfl (by intro c a d v w h; cases d <;> exact h) ?_
      simp only [pick, List.filterMap_cons, List.filterMap_nil, List.getElem?_cons_zero, List.getElem?_cons_succ]
      refine wpPure_nil ?_
      refine wpLoads_nil ?_
      (repeat (with_reducible refine wpQuiet_step ?_; intro K hK; go_simp; first | (with_reducible refine hK _ ?_; clear hK K) | (rw [if_neg (by decide)]; with_reducible refine hK _ ?_; clear hK K) | (refine ⟨_, fun wx hx => (by subst hx; go_simp; with_reducible rfl), hK _ ?_⟩; clear hK K) | (first | (refine ⟨_, (by with_reducible refine (HC1.out _).mono ?_; rintro e w' ⟨rfl, rfl⟩; exact ⟨rfl, rfl⟩), hK _ ?_⟩; clear hK K) | (refine ⟨_, (by with_reducible refine (HC2.out _).mono ?_; rintro e w' ⟨rfl, rfl⟩; exact ⟨rfl, rfl⟩), hK _ ?_⟩; clear hK K)) | (refine ⟨_, fun _ _ => rfl, hK _ ?_⟩; clear hK K))); with_reducible refine wpQuiet_nil ?_
      intro w3 hw3
      have H3 := Lib.hid (hw3 ▸ H2.out.drew : SL W _ w3)
      clear hw3 H2 L K z HC1 HC2
      refine wpKeep_nil ?_
      obtain ⟨L, K, z⟩ := H3.out.look
      go_upto_region 9 with fail
      refine name_world (P := Code.wp _ _ _ _) ?_
      intro w4 hw4
      have H4 := Lib.hid (SL.cast hw4 (((H3.out.set (off := 0) (v := .int .i64 rn) (cs' := #[.int .i64 rn, .slice Ak x0.key.length ck, .slice Ad x0.data.length cd, .bool x0.bad]) rfl).set (off := 1) (v := .slice Ak key2.length ck) (cs' := #[.int .i64 rn, .slice Ak key2.length ck, .slice Ad x0.data.length cd, .bool x0.bad]) rfl).set (off := 2) (v := .slice Ad data2.length cd) (cs' := #[.int .i64 rn, .slice Ak key2.length ck, .slice Ad data2.length cd, .bool x0.bad]) rfl))
      clear hw4 H3 L K z hrn
      obtain ⟨L, K, z⟩ := H4.out.look
      go_cut [8] from 18 to 159 (fun v wx => ∃ q, v = .bool q ∧ wx = w4)
      case first =>
        by_cases hw : k < ws.length
        · obtain ⟨b9, o9, e9, _, c9⟩ := (HB.out.below H4.out.below).cell (k := k) (u := .bool ws[k]) (by simp [hw])
          subst e9
          have t1 : (k : Int) < (ws.length : Int) := by omega
          generalize ws[k] = qv at c9
          go_wp2_with fail
          go_meet
          case rel => exact ⟨_, rfl, rfl⟩
        · have t1 : ¬ ((k : Int) < (ws.length : Int)) := by omega
          go_wp2_with fail
          go_meet
          case rel => exact ⟨_, rfl, rfl⟩
      case rest =>
        obtain ⟨q, rfl, rfl⟩ := hcut
        obtain ⟨wq, hnm⟩ : ∃ x : World, x = wc := ⟨_, rfl⟩
        subst hnm
        have hcP := put_any A5 t c5 ⟨rn, key2, data2, x0.bad⟩ Ak Ad ck cd H4.out (recsS_at H4.out.s1) (valid_fit2 HV.out) (by have := valid_len HV.out; omega) (HA1.out.grow H4.out.below) (HA2.out.grow H4.out.below) (by have := HLB.out; show key2.length ≤ _ ∧ data2.length ≤ _; omega)
        have hpk := put_kept (t := t) (x := ⟨rn, key2, data2, x0.bad⟩)
        dsimp only at hcP
        generalize putR t _ = ul0 at hcP hpk
        generalize putE t _ = er0 at hcP hpk
        have HCP := Lib.hid hcP
        have HPK := Lib.hid hpk
        clear hcP hpk
        go_wp2_with fail
        refine HCP.out.mono ?_
        rintro e w6 ⟨A9, c9, rfl, S6⟩
        have H6 := Lib.hid S6
        clear S6 HCP H4 L K z
        go_upto_if 63 with fail
        go_cut [9, 10] from 18 to 159 (fun u e wx => ∃ (ul : List Rec) (Au : Option Addr) (cu : Nat) (x : Rec) (Bk : Option Addr) (dk : Nat) (Bd : Option Addr) (dd : Nat) (er : Nat), u = .slice Au ul.length cu ∧ e = .int .i64 (er : Int) ∧ SL W (recsS (.slice Au ul.length cu) ul :: recsS (.slice A5 t.length c5) t :: cel xb #[.int .i64 x.r, .slice Bk x.key.length dk, .slice Bd x.data.length dd, .bool x.bad] 25 :: []) wx ∧ CardAt wx Bk x.key dk ∧ CardAt wx Bd x.data dd ∧ (er = 0 → Kept t ul x q))
        case first =>
          cases q with
          | false =>
            go_wp2_with fail
            go_meet
            case rel => exact ⟨ul0, A9, c9, ⟨rn, key2, data2, x0.bad⟩, Ak, ck, Ad, cd, er0, rfl, rfl, H6.out.s2.s1, HA1.out.grow H6.out.below, HA2.out.grow H6.out.below, HPK.out⟩
          | true =>
            obtain ⟨L, K, z⟩ := H6.out.s1.look
            have hcf := find_any A5 t c5 rn w6 (recsS_at H6.out.s2) (by have := valid_len HV.out; unfold maxLen; omega)
            obtain ⟨m, b, hm1, hb1, hmb⟩ : ∃ (m : Nat) (b : Bool), (findN t rn).getD 0 = m ∧ (findN t rn).isSome = b ∧ (b = true → m < t.length) := by
              refine ⟨_, _, rfl, rfl, fun h => ?_⟩
              obtain ⟨m, hm⟩ := Option.isSome_iff_exists.1 h
              rw [hm]; exact findN_lt hm
            rw [hm1, hb1] at hcf
            have HCF := Lib.hid hcf
            have HMB := Lib.hid hmb
            clear hcf hmb hm1 hb1 HPK
            go_wp2_with fail
            refine HCF.out.mono ?_
            rintro e w7 ⟨rfl, b7⟩
            have H7 := Lib.hid (H6.out.drop.grow b7)
            clear b7 HCF H6 L K z
            go_upto_if 71 with fail
            go_cut [] from 18 to 159 (fun wx => ∃ (x : Rec) (Bk : Option Addr) (dk : Nat) (Bd : Option Addr) (dd : Nat), SL W (cel xb #[.int .i64 x.r, .slice Bk x.key.length dk, .slice Bd x.data.length dd, .bool x.bad] 25 :: recsS (.slice A5 t.length c5) t :: []) wx ∧ CardAt wx Bk x.key dk ∧ CardAt wx Bd x.data dd ∧ x.key.length ≤ 1073741824 ∧ x.data.length ≤ 1073741824)
            case first =>
              cases b with
              | false =>
                go_wp2_with fail
                go_meet
                case rel => exact ⟨⟨rn, key2, data2, x0.bad⟩, Ak, ck, Ad, cd, H7.out, HA1.out.grow H7.out.below, HA2.out.grow H7.out.below, Nat.le_trans HLB.out.1 (by decide), Nat.le_trans HLB.out.2 (by decide)⟩
              | true =>
                have hml := HMB.out rfl
                have hy : t[m]? = some t[m] := List.getElem?_eq_getElem hml
                have hyf := (valid_fit2 HV.out).2 _ (List.mem_of_getElem? hy)
                generalize t[m] = y at hy hyf
                obtain ⟨g1, o1, Bk, dk, Bd, dd, hA, k0, k1, k2, k3, a1, a2⟩ := recsS_at H7.out.s1 m y hy
                subst hA
                have HY := Lib.hid hy
                obtain ⟨nd, hnd⟩ : ∃ nd, y.data.length = nd := ⟨_, rfl⟩
                rw [hnd] at k2 hyf
                have HYF := Lib.hid hyf
                clear a1 a2 hy k0 k3 hnd hyf
                obtain ⟨L, K, z⟩ := H7.out.look
                have hmx : ∀ wx : World, ∃ w', (Instr.makeSlice 23 (.int .i64 (nd : Int)) (.int .i64 (nd : Int))).run Try.prog wx = .ok (.slice (some ⟨wx.heap.size, 0, none⟩) nd nd) w' ∧ w'.ownsRow wx.heap.size 5 1 (.slice (some ⟨wx.heap.size, 0, none⟩) nd nd) nd (madeCells (Value.int .u8 0).cells (nd * 1)).toList ∧ wx.grownBy w' none := fun wx => by
                  obtain ⟨i, hi, hz, hsi, hby⟩ := info_parts (P := Try.prog) bElem.info
                  exact run_make_full (P := Try.prog) wx wx.heap.size 23 5 i _ 1 bElem.under hi hz hsi .i64 .i64 nd (by rw [hby]; have := HYF.out; omega) (by have := HYF.out; unfold maxLen; omega) (Nat.le_refl _)
                obtain ⟨mk, hmk⟩ : ∃ mk : World → World, ∀ wx : World, (Instr.makeSlice 23 (.int .i64 (nd : Int)) (.int .i64 (nd : Int))).run Try.prog wx = .ok (.slice (some ⟨wx.heap.size, 0, none⟩) nd nd) (mk wx) ∧ (mk wx).ownsRow wx.heap.size 5 1 (.slice (some ⟨wx.heap.size, 0, none⟩) nd nd) nd (madeCells (Value.int .u8 0).cells (nd * 1)).toList ∧ wx.grownBy (mk wx) none := ⟨fun wx => Classical.choose (hmx wx), fun wx => Classical.choose_spec (hmx wx)⟩
                have hm1 : ∀ wx : World, (Instr.makeSlice 23 (.int .i64 (nd : Int)) (.int .i64 (nd : Int))).run Try.prog wx = .ok (.slice (some ⟨wx.heap.size, 0, none⟩) nd nd) (mk wx) := fun wx => (hmk wx).1
                have hbm : ∀ wx : World, Below wx.heap.size wx (mk wx) := fun wx => (Below.refl _ _).grown (hmk wx).2.2 (Nat.le_refl _) (by intro k hk; cases hk)
                have zg : g1 < w7.heap.size := World.block_lt_of_cell? w7 _ k1
                have hne : xb ≠ g1 := box_ne (by omega) H7.out
                have zs1 : xb < (w7.setCell ⟨xb, 1, none⟩ (.slice Bk y.key.length dk)).drew.heap.size := by show xb < (w7.setCell ⟨xb, 1, none⟩ (.slice Bk y.key.length dk)).heap.size; rw [World.size_setCell]; exact z
                have c4 := ((hbm w7.drew).cell (p := ⟨g1, o1 + m * 4 + 1, none⟩) zg).trans k1
                have c5 := ((hbm w7.drew).cell (p := ⟨xb, 1, none⟩) z).trans (L 1)
                have c6 := ((hbm w7.drew).cell (p := ⟨xb, 2, none⟩) z).trans (L 2)
                have c7 := ((hbm w7.drew).frozen (p := ⟨xb, 1, none⟩) z).trans (K 1)
                have c8 := ((hbm w7.drew).frozen (p := ⟨xb, 2, none⟩) z).trans (K 2)
                have d6 : (mk (w7.setCell ⟨xb, 1, none⟩ (.slice Bk y.key.length dk)).drew).cell? ⟨xb, 2, none⟩ = some (.slice Ad data2.length cd) := ((hbm _).cell (p := ⟨xb, 2, none⟩) zs1).trans ((World.cell?_setCell_other w7 ⟨xb, 1, none⟩ ⟨xb, 2, none⟩ _ (by simp)).trans (L 2))
                have d8 : (mk (w7.setCell ⟨xb, 1, none⟩ (.slice Bk y.key.length dk)).drew).frozen? ⟨xb, 2, none⟩ = false := ((hbm _).frozen (p := ⟨xb, 2, none⟩) zs1).trans ((World.frozen?_setCell w7 ⟨xb, 1, none⟩ ⟨xb, 2, none⟩ _).trans (K 2))
                have HMK := Lib.hid hmk
                have HBM := Lib.hid hbm
                have HK1 := Lib.hid (And.intro k1 (And.intro zg hne))
                clear hmx hmk hbm zs1 zg
                obtain ⟨zs, hzl, hzs⟩ : ∃ zs : List UInt8, zs.length = nd ∧ Lib.byteCells zs = (madeCells (Value.int .u8 0).cells (nd * 1)).toList := ⟨List.replicate nd 0, List.length_replicate, zeros_made nd⟩
                have HZL := Lib.hid (And.intro hzl hzs)
                clear hzl hzs
                go_upto_region 14 with fail
                go_big_region
                · clear hm1 c4 c5 c6 c7 c8 d6 d8 L K z k1 hne
                  go_wp2_with fail
                  go_meet
                  case rel =>
                    obtain ⟨k1, zg, hne⟩ := HK1.out
                    have S0 := (H7.out.set (off := 1) (v := .slice Bk y.key.length dk) (cs' := #[.int .i64 rn, .slice Bk y.key.length dk, .slice Ad data2.length cd, .bool x0.bad]) rfl).drew
                    have hsz : (w7.setCell ⟨xb, 1, none⟩ (.slice Bk y.key.length dk)).drew.heap.size = w7.heap.size := World.size_setCell _ _ _
                    have S2 := S0.made (HMK.out (w7.setCell ⟨xb, 1, none⟩ (.slice Bk y.key.length dk)).drew).2.1 (HBM.out _)
                    have kk := ((HBM.out (w7.setCell ⟨xb, 1, none⟩ (.slice Bk y.key.length dk)).drew).cell (p := ⟨g1, o1 + m * 4 + 1, none⟩) (by rw [hsz]; exact zg)).trans ((World.cell?_setCell_far w7 ⟨xb, 1, none⟩ ⟨g1, o1 + m * 4 + 1, none⟩ _ hne).trans k1)
                    rw [hsz, ← HZL.out.2] at S2
                    have S1 := S2.s1.set (off := 2) (v := .slice (some ⟨w7.heap.size, 0, none⟩) nd nd) (cs' := #[.int .i64 rn, .slice Bk y.key.length dk, .slice (some ⟨w7.heap.size, 0, none⟩) nd nd, .bool x0.bad]) rfl
                    obtain ⟨r1, r2, r3⟩ := keep_box HZL.out.1 S1 HY.out ((World.cell?_setCell_far _ ⟨xb, 2, none⟩ ⟨g1, o1 + m * 4 + 1, none⟩ _ hne).trans kk)
                    exact ⟨⟨rn, y.key, zs, x0.bad⟩, Bk, dk, some ⟨w7.heap.size, 0, none⟩, nd, r1, r2, r3, HYF.out.1, by have := HYF.out.2; have := HZL.out.1; show zs.length ≤ _; omega⟩
                · clear hm1 c4 c5 c6 c7 c8 d6 d8 L K z k1 hne
                  go_wp2_with fail
                  go_meet
                  case rel =>
                    obtain ⟨k1, zg, hne⟩ := HK1.out
                    have S2 := H7.out.drew.made (HMK.out w7.drew).2.1 (HBM.out _)
                    have kk := ((HBM.out w7.drew).cell (p := ⟨g1, o1 + m * 4 + 1, none⟩) zg).trans k1
                    rw [← HZL.out.2] at S2
                    have S1 := (S2.s1.set (off := 1) (v := .slice Bk y.key.length dk) (cs' := #[.int .i64 rn, .slice Bk y.key.length dk, .slice Ad data2.length cd, .bool x0.bad]) rfl).set (off := 2) (v := .slice (some ⟨w7.heap.size, 0, none⟩) nd nd) (cs' := #[.int .i64 rn, .slice Bk y.key.length dk, .slice (some ⟨w7.heap.size, 0, none⟩) nd nd, .bool x0.bad]) rfl
                    obtain ⟨r1, r2, r3⟩ := keep_box HZL.out.1 S1 HY.out ((World.cell?_setCell_far _ ⟨xb, 2, none⟩ ⟨g1, o1 + m * 4 + 1, none⟩ _ hne).trans ((World.cell?_setCell_far _ ⟨xb, 1, none⟩ ⟨g1, o1 + m * 4 + 1, none⟩ _ hne).trans kk))
                    exact ⟨⟨rn, y.key, zs, x0.bad⟩, Bk, dk, some ⟨w7.heap.size, 0, none⟩, nd, r1, r2, r3, HYF.out.1, by have := HYF.out.2; have := HZL.out.1; show zs.length ≤ _; omega⟩
            case rest =>
              obtain ⟨x, Bk, dk, Bd, dd, S, a1, a2, hb1, hb2⟩ := hcut
              obtain ⟨wf, hnm⟩ : ∃ x : World, x = wc := ⟨_, rfl⟩
              subst hnm
              have H8 := Lib.hid S
              have HA8 := Lib.hid (And.intro a1 a2)
              have hcR := replace_any A5 t c5 x Bk Bd dk dd (SL.start wf) (recsS_at S.s1) (valid_fit2 HV.out) a1 a2 ⟨hb1, hb2⟩
              have hpk := rep_kept (t := t) (x := x)
              clear S a1 a2 hb1 hb2 H7
              generalize repR t x = ul1 at hcR hpk
              generalize repE t x = er1 at hcR hpk
              have HCR := Lib.hid hcR
              have HPK := Lib.hid hpk
              clear hcR hpk
              obtain ⟨L, K, z⟩ := H8.out.look
              go_wp2_with fail
              refine HCR.out.mono ?_
              rintro e w9 ⟨Au, cu, rfl, S9⟩
              have H9 := Lib.hid S9
              clear S9 HCR L K z
              go_wp2_with fail
              go_meet
              case rel => exact ⟨ul1, Au, cu, x, Bk, dk, Bd, dd, er1, rfl, rfl, (H8.out.join H9.out).s2.s1, HA8.out.1.grow H9.out.below, HA8.out.2.grow H9.out.below, HPK.out⟩
        case rest =>
          obtain ⟨ul, Au, cu, x, Bk, dk, Bd, dd, er, rfl, rfl, S, a1, a2, hkept⟩ := hcut
          obtain ⟨we, hnm⟩ : ∃ x : World, x = wc := ⟨_, rfl⟩
          subst hnm
          have H9 := Lib.hid S
          have HA9 := Lib.hid (And.intro a1 a2)
          have HK9 := Lib.hid hkept
          clear S a1 a2 hkept H6 HPK
          by_cases her : er = 0
          · subst her
            obtain ⟨hvu, m, hf, hm, hoth, hl1, hl2⟩ := HK9.out rfl
            have hul := valid_len hvu
            have htl := valid_len HV.out
            have hmu : m < ul.length := (List.getElem?_eq_some_iff.1 hm).1
            have HVU := Lib.hid hvu
            have HOT := Lib.hid hoth
            have hcF := find_any Au ul cu x.r we (recsS_at H9.out) (by unfold maxLen; omega)
            simp only [hf, Option.getD_some, Option.isSome_some] at hcF
            have HCF := Lib.hid hcF
            have HRU := Lib.hid (recsS_at H9.out)
            have HRT := Lib.hid (recsS_at H9.out.s1)
            have HVA := Lib.hid (fun (wx : World) (hx : Below we.heap.size we wx) => by
              have h := valid_any Au ul cu wx (HRU.out.grow hx) (valid_fit2 HVU.out)
              rw [HVU.out] at h; exact h)
            obtain ⟨g, off, Ek, ek, Ed, ed, hA, k0, k1, k2, k3, a3, a4⟩ := HRU.out m x hm
            subst hA
            have z0 := World.block_lt_of_cell? we _ k0
            have HL := Lib.hid (fun (wx : World) (hx : Below we.heap.size we wx) => (⟨(hx.cell (p := ⟨g, off + m * 4, none⟩) z0).trans k0, (hx.cell (p := ⟨g, off + m * 4 + 1, none⟩) z0).trans k1, (hx.cell (p := ⟨g, off + m * 4 + 2, none⟩) z0).trans k2, (hx.cell (p := ⟨g, off + m * 4 + 3, none⟩) z0).trans k3⟩ :
              wx.cell? ⟨g, off + m * 4, none⟩ = some (.int .i64 x.r) ∧ wx.cell? ⟨g, off + m * 4 + 1, none⟩ = some (.slice Ek x.key.length ek) ∧ wx.cell? ⟨g, off + m * 4 + 2, none⟩ = some (.slice Ed x.data.length ed) ∧ wx.cell? ⟨g, off + m * 4 + 3, none⟩ = some (.bool x.bad)))
            have HSE := Lib.hid (fun (wx : World) (hx : Below we.heap.size we wx) => equal2_any x Ek Ed Bk Bd ek ed dk dd wx (a3.grow hx) (a4.grow hx) (HA9.out.1.grow hx) (HA9.out.2.grow hx))
            obtain ⟨L, K, z⟩ := H9.out.s2.look
            have HXB := Lib.hid (fun (wx : World) (hx : Below we.heap.size we wx) => (⟨(hx.cell (p := ⟨xb, 0, none⟩) z).trans (L 0), (hx.cell (p := ⟨xb, 1, none⟩) z).trans (L 1), (hx.cell (p := ⟨xb, 2, none⟩) z).trans (L 2), (hx.cell (p := ⟨xb, 3, none⟩) z).trans (L 3)⟩ :
              wx.cell? ⟨xb, 0, none⟩ = some (.int .i64 x.r) ∧ wx.cell? ⟨xb, 1, none⟩ = some (.slice Bk x.key.length dk) ∧ wx.cell? ⟨xb, 2, none⟩ = some (.slice Bd x.data.length dd) ∧ wx.cell? ⟨xb, 3, none⟩ = some (.bool x.bad)))
            have HKL := Lib.hid (And.intro hl1 hl2)
            clear k0 k1 k2 k3 a3 a4 z0 hf hm hoth hvu hcF hl1 hl2 HK9
            go_wp2_with fail
            refine HCF.out.mono ?_
            rintro e w10 ⟨rfl, b10⟩
            have B10 := Lib.hid b10
            clear b10 HCF L K z
            go_upto_region 18 with fail
            go_cut [137] from 18 to 159 (fun v wx => v = .bool false ∧ Below we.heap.size we wx)
            case first =>
              cases q with
              | true =>
                have t2 : ((ul.length : Int) != (t.length : Int)) = false := by rw [HKL.out.1 rfl]; simp
                refine wp_region_quiet (C := Below we.heap.size we) (by kernel_rfl) (by kernel_rfl) B10.out.drew ?_
                (repeat (with_reducible refine wpQuiet_step ?_; intro K hK; go_simp; first | (with_reducible refine hK _ ?_; clear hK K) | (rw [if_neg (by decide)]; with_reducible refine hK _ ?_; clear hK K) | (refine ⟨_, fun wx hx => (by obtain ⟨f0, f1, f2, f3⟩ := HL.out wx hx; obtain ⟨g0, g1, g2, g3⟩ := HXB.out wx hx; go_simp; with_reducible rfl), hK _ ?_⟩; clear hK K) | (first | (refine ⟨_, fun wx hx => (by with_reducible refine (HVA.out wx hx).mono ?_; rintro e w' ⟨rfl, h2⟩; exact ⟨rfl, hx.trans (h2.mono hx.size)⟩), hK _ ?_⟩; clear hK K) | (refine ⟨_, fun wx hx => (by with_reducible refine (HSE.out wx hx).mono ?_; rintro e w' ⟨rfl, h2⟩; exact ⟨rfl, hx.trans (h2.mono hx.size)⟩), hK _ ?_⟩; clear hK K)) | (refine ⟨_, fun _ _ => rfl, hK _ ?_⟩; clear hK K))); with_reducible refine wpQuiet_nil ?_
                intro w11 hw11
                go_wp2_with fail
                go_meet
                case rel => exact ⟨rfl, hw11⟩
              | false =>
                have t2 : IntKind.i64.wrap ((ul.length : Int) - 1) = (m : Int) := by
                  have e := HKL.out.2 rfl
                  rw [IntWalk.i64_in _ (by omega), e]; omega
                refine wp_region_quiet (C := Below we.heap.size we) (by kernel_rfl) (by kernel_rfl) B10.out.drew ?_
                (repeat (with_reducible refine wpQuiet_step ?_; intro K hK; go_simp; first | (with_reducible refine hK _ ?_; clear hK K) | (rw [if_neg (by decide)]; with_reducible refine hK _ ?_; clear hK K) | (refine ⟨_, fun wx hx => (by obtain ⟨f0, f1, f2, f3⟩ := HL.out wx hx; obtain ⟨g0, g1, g2, g3⟩ := HXB.out wx hx; go_simp; with_reducible rfl), hK _ ?_⟩; clear hK K) | (first | (refine ⟨_, fun wx hx => (by with_reducible refine (HVA.out wx hx).mono ?_; rintro e w' ⟨rfl, h2⟩; exact ⟨rfl, hx.trans (h2.mono hx.size)⟩), hK _ ?_⟩; clear hK K) | (refine ⟨_, fun wx hx => (by with_reducible refine (HSE.out wx hx).mono ?_; rintro e w' ⟨rfl, h2⟩; exact ⟨rfl, hx.trans (h2.mono hx.size)⟩), hK _ ?_⟩; clear hK K)) | (refine ⟨_, fun _ _ => rfl, hK _ ?_⟩; clear hK K))); with_reducible refine wpQuiet_nil ?_
                intro w11 hw11
                go_wp2_with fail
                go_meet
                case rel => exact ⟨rfl, hw11⟩
            case rest =>
              obtain ⟨rfl, b11⟩ := hcut
              have B11 := Lib.hid b11
              clear b11 HL HSE HXB HVA B10
              go_wp2
              go_loopw [140] (fun i wr => ∃ j : Nat, j ≤ ul.length ∧ i = .int .i64 j ∧ Below we.heap.size we wr) (fun i _ => ul.length - (intOf i).toNat)
              case atStart => exact ⟨0, Nat.zero_le _, rfl, B11.out⟩
              case round =>
                obtain ⟨wh, hnm⟩ : ∃ x : World, x = wr := ⟨_, rfl⟩
                subst hnm
                obtain ⟨j, hj, rfl, b1⟩ := hrel
                have B1 := Lib.hid b1
                clear b1 B11
                by_cases hlt : j < ul.length
                · have HLJ := Lib.hid hlt
                  by_cases hjm : j = m
                  · have t3 : ((j : Int) != (m : Int)) = false := by rw [hjm]; simp
                    clear hjm
                    go_upto_region 23 with fail
                    refine wp_region_quiet (C := Below we.heap.size we) (by kernel_rfl) (by kernel_rfl) B1.out.drew ?_
                    (repeat (with_reducible refine wpQuiet_step ?_; intro K hK; go_simp; first | (with_reducible refine hK _ ?_; clear hK K) | (rw [if_neg (by decide)]; with_reducible refine hK _ ?_; clear hK K) | (refine ⟨_, fun wx hx => (by skip; go_simp; with_reducible rfl), hK _ ?_⟩; clear hK K) | fail | (refine ⟨_, fun _ _ => rfl, hK _ ?_⟩; clear hK K))); with_reducible refine wpQuiet_nil ?_
                    intro w11 hw11
                    have B3 := Lib.hid hw11
                    clear hw11
                    go_wp2
                    go_roundw
                    case rel => exact ⟨j + 1, HLJ.out, by go_num, B3.out⟩
                    case measure => have := HLJ.out; simp [intOf]; omega
                  · have t3 : ((j : Int) != (m : Int)) = true := by simp; omega
                    have hy : ul[j]? = some ul[j] := List.getElem?_eq_getElem hlt
                    generalize ul[j] = y at hy
                    have hty := HOT.out j y hjm hy
                    have hjt : j < t.length := (List.getElem?_eq_some_iff.1 hty).1
                    obtain ⟨gu, ou, Bk2, dk2, Bd2, dd2, hA, k0, k1, k2, k3, a1, a2⟩ := HRU.out j y hy
                    obtain ⟨gt, ot, Ek2, ek2, Ed2, ed2, hB, m0, m1, m2, m3, a3, a4⟩ := HRT.out j y hty
                    injection hA with hA; injection hA with hA hA2; subst hA; subst hA2
                    subst hB
                    have z0 := World.block_lt_of_cell? we _ k0
                    have y0 := World.block_lt_of_cell? we _ m0
                    have HL := Lib.hid (fun (wx : World) (hx : Below we.heap.size we wx) => (⟨(hx.cell (p := ⟨g, off + j * 4, none⟩) z0).trans k0, (hx.cell (p := ⟨g, off + j * 4 + 1, none⟩) z0).trans k1, (hx.cell (p := ⟨g, off + j * 4 + 2, none⟩) z0).trans k2, (hx.cell (p := ⟨g, off + j * 4 + 3, none⟩) z0).trans k3⟩ :
                      wx.cell? ⟨g, off + j * 4, none⟩ = some (.int .i64 y.r) ∧ wx.cell? ⟨g, off + j * 4 + 1, none⟩ = some (.slice Bk2 y.key.length dk2) ∧ wx.cell? ⟨g, off + j * 4 + 2, none⟩ = some (.slice Bd2 y.data.length dd2) ∧ wx.cell? ⟨g, off + j * 4 + 3, none⟩ = some (.bool y.bad)))
                    have HM := Lib.hid (fun (wx : World) (hx : Below we.heap.size we wx) => (⟨(hx.cell (p := ⟨gt, ot + j * 4, none⟩) y0).trans m0, (hx.cell (p := ⟨gt, ot + j * 4 + 1, none⟩) y0).trans m1, (hx.cell (p := ⟨gt, ot + j * 4 + 2, none⟩) y0).trans m2, (hx.cell (p := ⟨gt, ot + j * 4 + 3, none⟩) y0).trans m3⟩ :
                      wx.cell? ⟨gt, ot + j * 4, none⟩ = some (.int .i64 y.r) ∧ wx.cell? ⟨gt, ot + j * 4 + 1, none⟩ = some (.slice Ek2 y.key.length ek2) ∧ wx.cell? ⟨gt, ot + j * 4 + 2, none⟩ = some (.slice Ed2 y.data.length ed2) ∧ wx.cell? ⟨gt, ot + j * 4 + 3, none⟩ = some (.bool y.bad)))
                    have HSE := Lib.hid (fun (wx : World) (hx : Below we.heap.size we wx) => equal2_any y Bk2 Bd2 Ek2 Ed2 dk2 dd2 ek2 ed2 wx (a1.grow hx) (a2.grow hx) (a3.grow hx) (a4.grow hx))
                    clear k0 k1 k2 k3 m0 m1 m2 m3 a1 a2 a3 a4 hy hty z0 y0 hjm
                    go_upto_region 23 with fail
                    refine wp_region_quiet (C := Below we.heap.size we) (by kernel_rfl) (by kernel_rfl) B1.out.drew ?_
                    (repeat (with_reducible refine wpQuiet_step ?_; intro K hK; go_simp; first | (with_reducible refine hK _ ?_; clear hK K) | (rw [if_neg (by decide)]; with_reducible refine hK _ ?_; clear hK K) | (refine ⟨_, fun wx hx => (by obtain ⟨f0, f1, f2, f3⟩ := HL.out wx hx; obtain ⟨g0, g1, g2, g3⟩ := HM.out wx hx; go_simp; with_reducible rfl), hK _ ?_⟩; clear hK K) | (refine ⟨_, fun wx hx => (by with_reducible refine (HSE.out wx hx).mono ?_; rintro e w' ⟨rfl, h2⟩; exact ⟨rfl, hx.trans (h2.mono hx.size)⟩), hK _ ?_⟩; clear hK K) | (refine ⟨_, fun _ _ => rfl, hK _ ?_⟩; clear hK K))); with_reducible refine wpQuiet_nil ?_
                    intro w11 hw11
                    have B3 := Lib.hid hw11
                    clear hw11
                    go_wp2
                    go_roundw
                    case rel => exact ⟨j + 1, HLJ.out, by go_num, B3.out⟩
                    case measure => have := HLJ.out; simp [intOf]; omega
                · obtain rfl : j = ul.length := by omega
                  have HWR := Lib.hid (H9.out.only.grow B1.out)
                  go_wp2
                  go_roundw
                  case rel => exact ⟨k + 1, ul, _, cu, HLT.out, by omega, by go_num, rfl, HVU.out, HWR.out⟩
                  case measure => have := HLT.out; simp [intOf]; omega
          · have t1 : (((er : Nat) : Int) != (0 : Int)) = true := by simp; omega
            have H10 := Lib.hid H9.out.s1.only
            clear HK9 her
            go_wp2
            go_roundw
            case rel => exact ⟨k + 1, t, A5, c5, HLT.out, by omega, by go_num, rfl, HV.out, H10.out⟩
            case measure => have := HLT.out; simp [intOf]; omega
    · by_cases h1 : (k : Int) < (l.length : Int)
      · have h2 : ¬ ((k : Int) < 40) := by omega
        go_wp2
        go_ret
        exact ⟨rfl, H1.out.below⟩
      · go_wp2
        go_ret
        exact ⟨rfl, H1.out.below⟩
end
end Go.Proofs.Ytelfihgkbbaifaa
