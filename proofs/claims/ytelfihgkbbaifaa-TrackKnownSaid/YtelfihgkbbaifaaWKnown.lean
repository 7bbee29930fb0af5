/- TrackKnown: the walk. -/
import Derived.Test.YtelfihgkbbaifaaKn
import Derived.Deep.CutBlock
import Derived.Deep.CutRange
import Derived.Deep.RegionLaw
import Derived.Lib.SlBytesConst
namespace Go.Proofs.Ytelfihgkbbaifaa
open Go.RowKit
set_option maxRecDepth 100000 in
set_option maxHeartbeats 40000000 in
theorem walk_trackKnown (W : World) : Calls Try.prog 10 #[] W fun e W' => e = .returned (.bool true) ∧ Below W.heap.size W W' := by
  go_enter Try.func10, Try.ntmps10
  go_wp2
  go_loopw [1, 2] (fun o i wr => ∃ (k : Nat) (A : Option Addr) (c : Nat) (ps : List RV), k ≤ 64 ∧ i = .int .i64 ((k : Int) + 1) ∧ o = .slice A k c ∧ ps.length = k ∧ ps.map Prod.snd = manyL k ∧ (∀ p ∈ ps, ∀ wx, RecV wx p) ∧ SL W (rowS 25 4 (.slice A k c) k (ps.flatMap recCells) :: []) wr) (fun _ i _ => 65 - (intOf i).toNat)
  case atStart => exact ⟨0, none, 0, [], by omega, rfl, rfl, rfl, rfl, by simp, (SL.start W).nil _ _⟩
  case round =>
  obtain ⟨w0, hnm⟩ : ∃ x : World, x = wr := ⟨_, rfl⟩
  subst hnm
  obtain ⟨k, A, c, ps, hk, rfl, rfl, hp1, hp2, hp3, S1⟩ := hrel
  have H1 := Lib.hid S1
  have HP := Lib.hid (And.intro hp1 (And.intro hp2 hp3))
  clear S1 hp1 hp2 hp3
  by_cases hlt : k < 64
  · have HLT := Lib.hid hlt
    go_wp2_with fail
    refine (rec_at (4 * ((k : Int) + 1) - 1) [] [] 0 0 rfl rfl _ (by decide) (by decide)).mono ?_
    rintro e w1 ⟨Ak, ck, Ad, cd, rfl, hv, b⟩
    have HV := Lib.hid hv
    have H2 := Lib.hid (H1.out.grow b)
    clear hv b H1
    generalize hnn : (4 * ((k : Int) + 1) - 1) = nn at *
    have HNN := Lib.hid hnn
    clear hnn
    go_wp2_with (at_builtin; refine wpList_pushS rfl _ _ _ rfl recElem w1 [.int .i64 nn, .slice Ak 0 ck, .slice Ad 0 cd, .bool false] 1 rfl rfl (by simp [Value.oneCell']) _ k _ rfl rfl H2.out (by unfold maxLen; omega) (by omega) ?_
                 intro A6 c6 w6 S6
                 have H6 := Lib.hid S6
                 clear S6 H2)
    go_roundw
    case rel =>
      obtain ⟨hp1, hp2, hp3⟩ := HP.out
      refine ⟨k + 1, A6, c6, ps ++ [((.slice Ak 0 ck, .slice Ad 0 cd), ⟨nn, [], [], false⟩)], HLT.out, by go_num, rfl, by simp [hp1], by rw [manyL_succ, HNN.out, ← hp2]; simp, ?_, ?_⟩
      · intro p hp
        rcases List.mem_append.1 hp with h | h
        · exact hp3 p h
        · obtain rfl := List.mem_singleton.1 h
          exact HV.out.bare
      · rw [flat_snoc]
        exact H6.out
    case measure => have := HLT.out; simp [intOf]; omega
  obtain rfl : k = 64 := by omega
  have HM := Lib.hid (show RecsAt w0 A (manyL 64) by rw [← HP.out.2.1]; exact recs_at' H1.out fun p hp => HP.out.2.2 p hp _)
  have HS0 := Lib.hid (SL.start w0)
  have HB0 := Lib.hid H1.out.below
  clear hk hlt
  have hc1 := valid_any A (manyL 64) c w0 HM.out many_fit
  rw [manyL_len, show validB (manyL 64) = true by kernel_rfl] at hc1
  have HC1 := Lib.hid hc1
  clear hc1
  go_wp2_with fail
  refine (HC1.out).mono ?_
  rintro e w1 ⟨rfl, b⟩
  replace HM := Lib.hid (HM.out.grow b)
  have HS1 := Lib.hid (HS0.out.grow b)
  clear b HS0
  clear HC1
  have hc1 := used_any A (manyL 64) c w1 HM.out many_fit
  rw [manyL_len, show usedN (manyL 64) = 2048 by kernel_rfl] at hc1
  have HC1 := Lib.hid (show Calls _ _ _ _ (fun e w' => e = .returned (.int .i64 2048) ∧ Below _ _ w') from hc1)
  clear hc1
  go_wp2_with fail
  refine (HC1.out).mono ?_
  rintro e w2 ⟨rfl, b⟩
  replace HM := Lib.hid (HM.out.grow b)
  have HS2 := Lib.hid (HS1.out.grow b)
  clear b HS1
  clear HC1
  go_wp2_with fail
  refine (rec_at 256 [] [] 0 0 rfl rfl _ (by decide) (by decide)).mono ?_
  rintro e w3 ⟨Aka, cka, Ada, cda, rfl, hva, b⟩
  replace HM := Lib.hid (HM.out.grow b)
  have HS3 := Lib.hid (HS2.out.grow b)
  clear b HS2
  have HVa := Lib.hid hva
  clear hva
  obtain ⟨h1, h2⟩ := HVa.out.get
  have hc1 := fits_any A (manyL 64) c (⟨256, [], [], false⟩ : Rec) Aka Ada cka cda w3 HM.out many_fit (by decide)
  rw [manyL_len, show validB (manyL 64 ++ [(⟨256, [], [], false⟩ : Rec)]) = false by kernel_rfl] at hc1
  have HC1 := Lib.hid hc1
  clear hc1 h1 h2
  go_wp2_with fail
  refine (HC1.out).mono ?_
  rintro e w4 ⟨rfl, b⟩
  replace HM := Lib.hid (HM.out.grow b)
  replace HVa := Lib.hid (HVa.out.grow b)
  have HS4 := Lib.hid (HS3.out.grow b)
  clear b HS3
  clear HC1
  clear HVa
  go_wp2_with fail
  refine (rec_at 255 [] [] 0 0 rfl rfl _ (by decide) (by decide)).mono ?_
  rintro e w5 ⟨Akb, ckb, Adb, cdb, rfl, hvb, b⟩
  replace HM := Lib.hid (HM.out.grow b)
  have HS5 := Lib.hid (HS4.out.grow b)
  clear b HS4
  have HVb := Lib.hid hvb
  clear hvb
  have HR := Lib.hid (H1.out.grow HS5.out.below)
  go_wp2_with (at_builtin; refine wpList_step ?_; intro K hK; rw [if_pos (by rfl)]
               refine wp_pushK _ _ _ rfl recElem w5 [.int .i64 255, .slice Akb 0 ckb, .slice Adb 0 cdb, .bool false] 1 rfl rfl (by simp [Value.oneCell']) A 64 c _ rfl rfl HR.out (by unfold maxLen; omega) (by omega) ?_
               intro A6 c6 w6x S6 hat
               have H6 := Lib.hid S6
               have HAT := Lib.hid hat
               clear S6 hat
               refine hK _ _ ?_
               clear hK K)
  have hrc := recs_at' (ps := ps ++ [((.slice Akb 0 ckb, .slice Adb 0 cdb), ⟨255, [], [], false⟩)]) (by rw [flat_snoc]; exact H6.out) (fun p hp => by
    rcases List.mem_append.1 hp with h | h
    · exact HP.out.2.2 p h _
    · obtain rfl := List.mem_singleton.1 h; exact HVb.out.bare _)
  rw [List.map_append, HP.out.2.1] at hrc
  have hc1 := valid_any A6 (manyL 64 ++ [(⟨255, [], [], false⟩ : Rec)]) c6 w6x hrc ⟨by simp [manyL_len], fun x hx => by
    rcases List.mem_append.1 hx with h | h
    · exact many_fit.2 x h
    · obtain rfl := List.mem_singleton.1 h; exact ⟨by simp, by simp⟩⟩
  rw [show (manyL 64 ++ [(⟨255, [], [], false⟩ : Rec)]).length = 64 + 1 by simp [manyL_len], show validB (manyL 64 ++ [(⟨255, [], [], false⟩ : Rec)]) = false by kernel_rfl] at hc1
  have HC1 := Lib.hid hc1
  have HM6 := Lib.hid (show RecsAt w6x A (manyL 64) by rw [← HP.out.2.1]; exact recsAt_of HAT.out fun p hp => HP.out.2.2 p hp _)
  have HBW := Lib.hid H6.out.below
  clear hc1 hrc HM HR HAT H6 HVb HS5 HB0 H1
  have HSx := Lib.hid (SL.start w6x)
  have HM := HM6
  clear HM6
  go_wp2_with fail
  refine (HC1.out).mono ?_
  rintro e w6 ⟨rfl, b⟩
  replace HM := Lib.hid (HM.out.grow b)
  have HS6 := Lib.hid (HSx.out.grow b)
  clear b HSx
  clear HC1
  go_wp2_with fail
  refine (rec_at 255 [] [120] 0 1 rfl rfl _ (by decide) (by decide)).mono ?_
  rintro e w7 ⟨Akc, ckc, Adc, cdc, rfl, hvc, b⟩
  replace HM := Lib.hid (HM.out.grow b)
  have HS7 := Lib.hid (HS6.out.grow b)
  clear b HS6
  have HVc := Lib.hid hvc
  clear hvc
  obtain ⟨h1, h2⟩ := HVc.out.get
  have hc := put_any A (manyL 64) c (⟨255, [], [120], false⟩ : Rec) Akc Adc ckc cdc (SL.start _) HM.out many_fit (by rw [manyL_len]; omega) h1 h2 (by decide)
  rw [manyL_len, show putE (manyL 64) (⟨255, [], [120], false⟩ : Rec) = 7 by kernel_rfl] at hc
  rw [show putR (manyL 64) (⟨255, [], [120], false⟩ : Rec) = [] by kernel_rfl] at hc
  have HC := Lib.hid hc
  clear hc h1 h2
  clear HVc
  go_wp2_with fail
  refine HC.out.mono ?_
  rintro e w8 ⟨A8, c8, rfl, S8⟩
  have b := S8.below
  replace HM := Lib.hid (HM.out.grow b)
  have HS8 := Lib.hid (HS7.out.grow b)
  clear b HS7
  clear S8 HC
  go_wp2_with fail
  refine (rec_at 0 [] [] 0 0 rfl rfl _ (by decide) (by decide)).mono ?_
  rintro e w9 ⟨Akd, ckd, Add, cdd, rfl, hvd, b⟩
  replace HM := Lib.hid (HM.out.grow b)
  have HS9 := Lib.hid (HS8.out.grow b)
  clear b HS8
  have HVd := Lib.hid hvd
  clear hvd
  obtain ⟨h1, h2⟩ := HVd.out.get
  have hc := put_any A (manyL 64) c (⟨0, [], [], false⟩ : Rec) Akd Add ckd cdd (SL.start _) HM.out many_fit (by rw [manyL_len]; omega) h1 h2 (by decide)
  rw [manyL_len, show putE (manyL 64) (⟨0, [], [], false⟩ : Rec) = 1 by kernel_rfl] at hc
  rw [show putR (manyL 64) (⟨0, [], [], false⟩ : Rec) = [] by kernel_rfl] at hc
  have HC := Lib.hid hc
  clear hc h1 h2
  clear HVd
  go_wp2_with fail
  refine HC.out.mono ?_
  rintro e w10 ⟨A10, c10, rfl, S10⟩
  have b := S10.below
  replace HM := Lib.hid (HM.out.grow b)
  have HS10 := Lib.hid (HS9.out.grow b)
  clear b HS9
  clear S10 HC
  go_wp2_with fail
  refine (rec_at 2 [] [] 0 0 rfl rfl _ (by decide) (by decide)).mono ?_
  rintro e w11 ⟨Ake, cke, Ade, cde, rfl, hve, b⟩
  replace HM := Lib.hid (HM.out.grow b)
  have HS11 := Lib.hid (HS10.out.grow b)
  clear b HS10
  have HVe := Lib.hid hve
  clear hve
  go_wp2_with fail
  refine (rec_at 1 [] [] 0 0 rfl rfl _ (by decide) (by decide)).mono ?_
  rintro e w12 ⟨Akf, ckf, Adf, cdf, rfl, hvf, b⟩
  replace HM := Lib.hid (HM.out.grow b)
  replace HVe := Lib.hid (HVe.out.grow b)
  have HS12 := Lib.hid (HS11.out.grow b)
  clear b HS11
  have HVf := Lib.hid hvf
  clear hvf
  go_wp2_with fail
  refine (rec_at 1 [] [] 0 0 rfl rfl _ (by decide) (by decide)).mono ?_
  rintro e w9x ⟨Akg, ckg, Adg, cdg, rfl, hvg, b9⟩
  have ht := recs_lit (w := w12) [((.slice Ake 0 cke, .slice Ade 0 cde), ⟨2, [], [], false⟩), ((.slice Akf 0 ckf, .slice Adf 0 cdf), ⟨1, [], [], false⟩)] (all2 HVe.out HVf.out) (by simp)
  have HT := Lib.hid (ht.grow b9)
  have b := ((Below.refl _ w12).alloc (Nat.le_refl _) _).trans (b9.mono (by rw [World.size_alloc]; omega))
  have HVg := Lib.hid hvg
  clear ht b9 hvg
  clear HVe
  clear HVf
  replace HM := Lib.hid (HM.out.grow b)
  have HS13 := Lib.hid (HS12.out.grow b)
  clear b HS12
  generalize w12.heap.size = xt at *
  obtain ⟨h1, h2⟩ := HVg.out.get
  have hc := put_any (some ⟨xt, 0, none⟩) [(⟨2, [], [], false⟩ : Rec), (⟨1, [], [], false⟩ : Rec)] 2 (⟨1, [], [], false⟩ : Rec) Akg Adg ckg cdg (SL.start _) HT.out ⟨by decide, fun x hx => by simp only [List.mem_cons, List.not_mem_nil, or_false] at hx; rcases hx with rfl | rfl <;> decide⟩ (by decide) h1 h2 (by decide)
  rw [show putE [(⟨2, [], [], false⟩ : Rec), (⟨1, [], [], false⟩ : Rec)] (⟨1, [], [], false⟩ : Rec) = 1 by kernel_rfl, show putR [(⟨2, [], [], false⟩ : Rec), (⟨1, [], [], false⟩ : Rec)] (⟨1, [], [], false⟩ : Rec) = [] by kernel_rfl] at hc
  have HC := Lib.hid hc
  clear hc h1 h2
  clear HVg
  clear HT
  go_wp2_with fail
  refine HC.out.mono ?_
  rintro e w14 ⟨A14, c14, rfl, S14⟩
  have b := S14.below
  replace HM := Lib.hid (HM.out.grow b)
  have HS14 := Lib.hid (HS13.out.grow b)
  clear b HS13
  clear S14 HC
  go_wp2_with fail
  refine (rec_at 254 [] [] 0 0 rfl rfl _ (by decide) (by decide)).mono ?_
  rintro e w15 ⟨Akh, ckh, Adh, cdh, rfl, hvh, b⟩
  replace HM := Lib.hid (HM.out.grow b)
  have HS15 := Lib.hid (HS14.out.grow b)
  clear b HS14
  have HVh := Lib.hid hvh
  clear hvh
  obtain ⟨h1, h2⟩ := HVh.out.get
  have hc := put_any A (manyL 64) c (⟨254, [], [], false⟩ : Rec) Akh Adh ckh cdh (SL.start _) HM.out many_fit (by rw [manyL_len]; omega) h1 h2 (by decide)
  rw [manyL_len, show putE (manyL 64) (⟨254, [], [], false⟩ : Rec) = 0 by kernel_rfl] at hc
  have HC := Lib.hid hc
  clear hc h1 h2
  clear HVh
  go_wp2_with fail
  refine HC.out.mono ?_
  rintro e w16 ⟨A16, c16, rfl, S16⟩
  have b := S16.below
  have hpl : (putR (manyL 64) (⟨254, [], [], false⟩ : Rec)).length = 64 := by kernel_rfl
  have hp63 : (putR (manyL 64) (⟨254, [], [], false⟩ : Rec))[63]? = some (⟨254, [], [], false⟩ : Rec) := by kernel_rfl
  rw [hpl]
  have HPL := Lib.hid (recsS_at S16)
  have HP63 := Lib.hid hp63
  clear hpl hp63
  generalize putR (manyL 64) (⟨254, [], [], false⟩ : Rec) = pl at HPL HP63
  replace HM := Lib.hid (HM.out.grow b)
  have HS16 := Lib.hid (HS15.out.grow b)
  clear b HS15
  clear S16 HC
  clear HM
--PART
  go_upto_region 11 with fail
  go_cut [12] (fun v wx => ∃ (xb : Nat) (Ak Ad : Option Addr), v = .pointer (some ⟨xb, 0, none⟩) ∧ SL w16 (cel xb #[.int .i64 1, .slice Ak 255 255, .slice Ad 1745 1745, .bool false] 25 :: []) wx ∧ CardAt wx Ak (List.replicate 255 0) 255 ∧ CardAt wx Ad (List.replicate 1745 0) 1745)
  case first =>
    obtain ⟨mk1, hk1⟩ := mk_make 255 (by decide)
    obtain ⟨mk2, hk2⟩ := mk_make 1745 (by decide)
    have HK := Lib.hid (And.intro hk1 hk2)
    have hm1 : ∀ wx : World, (Instr.makeSlice 23 (.int .i64 255) (.int .i64 255)).run Try.prog wx = .ok (.slice (some ⟨wx.heap.size, 0, none⟩) 255 255) (mk1 wx) := fun wx => (hk1 wx).1
    have hm2 : ∀ wx : World, (Instr.makeSlice 23 (.int .i64 1745) (.int .i64 1745)).run Try.prog wx = .ok (.slice (some ⟨wx.heap.size, 0, none⟩) 1745 1745) (mk2 wx) := fun wx => (hk2 wx).1
    have fa := row_look (hl_grow (hk2 _).2.1 (hl_grow (hk1 (w16.alloc (.cells #[.int .i64 0, .slice none 0 0, .slice none 0 0, .bool false] 25)).drew).2.1 (hl_new (w := w16) rfl)))
    have fb := row_look (hl_grow (hk1 _).2.1 (hl_grow (hk2 (w16.alloc (.cells #[.int .i64 0, .slice none 0 0, .slice none 0 0, .bool false] 25)).drew).2.1 (hl_new (w := w16) rfl)))
    have fc := row_look (hl_grow (hk2 ((mk1 w16.drew).alloc (.cells #[.int .i64 0, .slice none 0 0, .slice none 0 0, .bool false] 25))).2.1 (hl_new rfl))
    have fd := row_look (hl_grow (hk1 ((mk2 w16.drew).alloc (.cells #[.int .i64 0, .slice none 0 0, .slice none 0 0, .bool false] 25))).2.1 (hl_new rfl))
    obtain ⟨La, Ka, za⟩ := fa
    obtain ⟨Lb, Kb, zb⟩ := fb
    obtain ⟨Lc, Kc, zc⟩ := fc
    obtain ⟨Ld, Kd, zd⟩ := fd
    clear hk1 hk2
    go_region
    · go_wp2_with fail
      go_meet
      case rel =>
        have c1 := (HK.out.1 w16.drew).2.2
        have b1 := (HK.out.1 w16.drew).2.1
        have c2 := (HK.out.2 (mk1 w16.drew)).2.2
        have b2 := (HK.out.2 (mk1 w16.drew)).2.1
        have b3 := (Below.refl (mk2 (mk1 w16.drew)).heap.size (mk2 (mk1 w16.drew))).alloc (Nat.le_refl _)
        exact ⟨_, some ⟨_, 0, none⟩, some ⟨_, 0, none⟩, rfl, (((SL.start w16).drew.grow b1).grow b2).allocC _ _, (c1.grow b2).grow (b3 _), c2.grow (b3 _)⟩
    · go_wp2_with fail
      go_meet
      case rel =>
        have c1 := (HK.out.1 w16.drew).2.2
        have b1 := (HK.out.1 w16.drew).2.1
        have c2 := (HK.out.2 ((mk1 w16.drew).alloc (.cells #[.int .i64 0, .slice none 0 0, .slice none 0 0, .bool false] 25))).2.2
        have b2 := (HK.out.2 ((mk1 w16.drew).alloc (.cells #[.int .i64 0, .slice none 0 0, .slice none 0 0, .bool false] 25))).2.1
        have b3 := (Below.refl (mk1 w16.drew).heap.size (mk1 w16.drew)).alloc (Nat.le_refl _) (.cells #[.int .i64 0, .slice none 0 0, .slice none 0 0, .bool false] 25)
        have n1 : (mk1 w16.drew).heap.size ≠ w16.heap.size := Nat.ne_of_gt (card_lt c1)
        have S := ((((SL.start w16).drew.grow b1).allocC #[.int .i64 0, .slice none 0 0, .slice none 0 0, .bool false] 25).grow b2)
        have c3 := (c1.grow b3).grow b2
        rw [World.size_alloc] at c2
        exact ⟨_, some ⟨_, 0, none⟩, some ⟨_, 0, none⟩, rfl, box4 S _ _, card4 c3 n1, card4 c2 (by omega)⟩
    · go_wp2_with fail
      go_meet
      case rel =>
        have c1 := (HK.out.2 w16.drew).2.2
        have b1 := (HK.out.2 w16.drew).2.1
        have c2 := (HK.out.1 (mk2 w16.drew)).2.2
        have b2 := (HK.out.1 (mk2 w16.drew)).2.1
        have b3 := (Below.refl (mk1 (mk2 w16.drew)).heap.size (mk1 (mk2 w16.drew))).alloc (Nat.le_refl _)
        exact ⟨_, some ⟨_, 0, none⟩, some ⟨_, 0, none⟩, rfl, (((SL.start w16).drew.grow b1).grow b2).allocC _ _, c2.grow (b3 _), (c1.grow b2).grow (b3 _)⟩
    · go_wp2_with fail
      go_meet
      case rel =>
        have c1 := (HK.out.2 w16.drew).2.2
        have b1 := (HK.out.2 w16.drew).2.1
        have c2 := (HK.out.1 ((mk2 w16.drew).alloc (.cells #[.int .i64 0, .slice none 0 0, .slice none 0 0, .bool false] 25))).2.2
        have b2 := (HK.out.1 ((mk2 w16.drew).alloc (.cells #[.int .i64 0, .slice none 0 0, .slice none 0 0, .bool false] 25))).2.1
        have b3 := (Below.refl (mk2 w16.drew).heap.size (mk2 w16.drew)).alloc (Nat.le_refl _) (.cells #[.int .i64 0, .slice none 0 0, .slice none 0 0, .bool false] 25)
        have n1 : (mk2 w16.drew).heap.size ≠ w16.heap.size := Nat.ne_of_gt (card_lt c1)
        have S := ((((SL.start w16).drew.grow b1).allocC #[.int .i64 0, .slice none 0 0, .slice none 0 0, .bool false] 25).grow b2)
        have c3 := (c1.grow b3).grow b2
        rw [World.size_alloc] at c2
        exact ⟨_, some ⟨_, 0, none⟩, some ⟨_, 0, none⟩, rfl, box4 S _ _, card4 c2 (by omega), card4 c3 n1⟩
    · go_wp2_with fail
      go_meet
      case rel =>
        have c1 : CardAt (mk1 ((w16.alloc (.cells #[.int .i64 0, .slice none 0 0, .slice none 0 0, .bool false] 25)).drew)) (some ⟨(w16.alloc (.cells #[.int .i64 0, .slice none 0 0, .slice none 0 0, .bool false] 25)).heap.size, 0, none⟩) _ _ := (HK.out.1 ((w16.alloc (.cells #[.int .i64 0, .slice none 0 0, .slice none 0 0, .bool false] 25)).drew)).2.2
        have b1 := (HK.out.1 ((w16.alloc (.cells #[.int .i64 0, .slice none 0 0, .slice none 0 0, .bool false] 25)).drew)).2.1
        have c2 := (HK.out.2 (mk1 ((w16.alloc (.cells #[.int .i64 0, .slice none 0 0, .slice none 0 0, .bool false] 25)).drew))).2.2
        have b2 := (HK.out.2 (mk1 ((w16.alloc (.cells #[.int .i64 0, .slice none 0 0, .slice none 0 0, .bool false] 25)).drew))).2.1
        have S := (((SL.start w16).allocC #[.int .i64 0, .slice none 0 0, .slice none 0 0, .bool false] 25).drew.grow b1).grow b2
        have hs : (w16.alloc (.cells #[.int .i64 0, .slice none 0 0, .slice none 0 0, .bool false] 25)).heap.size ≤ (mk1 ((w16.alloc (.cells #[.int .i64 0, .slice none 0 0, .slice none 0 0, .bool false] 25)).drew)).heap.size := b1.size
        rw [World.size_alloc] at c1 hs
        have c3 := c1.grow b2
        exact ⟨_, some ⟨_, 0, none⟩, some ⟨_, 0, none⟩, rfl, box4 S _ _, card4 c3 (by omega), card4 c2 (by omega)⟩
    · go_wp2_with fail
      go_meet
      case rel =>
        have c1 : CardAt (mk2 ((w16.alloc (.cells #[.int .i64 0, .slice none 0 0, .slice none 0 0, .bool false] 25)).drew)) (some ⟨(w16.alloc (.cells #[.int .i64 0, .slice none 0 0, .slice none 0 0, .bool false] 25)).heap.size, 0, none⟩) _ _ := (HK.out.2 ((w16.alloc (.cells #[.int .i64 0, .slice none 0 0, .slice none 0 0, .bool false] 25)).drew)).2.2
        have b1 := (HK.out.2 ((w16.alloc (.cells #[.int .i64 0, .slice none 0 0, .slice none 0 0, .bool false] 25)).drew)).2.1
        have c2 := (HK.out.1 (mk2 ((w16.alloc (.cells #[.int .i64 0, .slice none 0 0, .slice none 0 0, .bool false] 25)).drew))).2.2
        have b2 := (HK.out.1 (mk2 ((w16.alloc (.cells #[.int .i64 0, .slice none 0 0, .slice none 0 0, .bool false] 25)).drew))).2.1
        have S := (((SL.start w16).allocC #[.int .i64 0, .slice none 0 0, .slice none 0 0, .bool false] 25).drew.grow b1).grow b2
        have hs : (w16.alloc (.cells #[.int .i64 0, .slice none 0 0, .slice none 0 0, .bool false] 25)).heap.size ≤ (mk2 ((w16.alloc (.cells #[.int .i64 0, .slice none 0 0, .slice none 0 0, .bool false] 25)).drew)).heap.size := b1.size
        rw [World.size_alloc] at c1 hs
        have c3 := c1.grow b2
        exact ⟨_, some ⟨_, 0, none⟩, some ⟨_, 0, none⟩, rfl, box4 S _ _, card4 c2 (by omega), card4 c3 (by omega)⟩

  case rest =>
    obtain ⟨xb, Akl, Adl, rfl, S1, hl1, hl2⟩ := hcut
    obtain ⟨wm, hnm⟩ : ∃ x : World, x = wc := ⟨_, rfl⟩
    subst hnm
    have b := S1.below
    have HX := Lib.hid S1
    have HVl := Lib.hid (show RecV wm ((.slice Akl 255 255, .slice Adl 1745 1745), xLong) from ⟨Akl, 255, Adl, 1745, by simp [xLong], hl1, hl2⟩)
    clear S1 hl1 hl2
    replace HPL := Lib.hid (HPL.out.grow b)
    have HS17 := Lib.hid (HS16.out.grow b)
    clear b HS16
    obtain ⟨L, K, z⟩ := HX.out.look
    go_wp2_with fail
    refine (valid_lit2 _ [((.slice Akl 255 255, .slice Adl 1745 1745), xLong)] 1 rfl (by decide) (all1 HVl.out) true (by kernel_rfl) (by simp [xLong])).mono ?_
    rintro e w18 ⟨rfl, b⟩
    replace HPL := Lib.hid (HPL.out.grow b)
    replace HX := Lib.hid (HX.out.grow b)
    replace HVl := Lib.hid (HVl.out.grow b)
    have HS18 := Lib.hid (HS17.out.grow b)
    clear b HS17
    clear L K z
    obtain ⟨L, K, z⟩ := HX.out.look
    go_wp2_with fail
    refine (show Calls _ _ _ _ (fun e w' => e = .returned (.int .i64 2048) ∧ Below _ _ w') from used_lit2 _ [((.slice Akl 255 255, .slice Adl 1745 1745), xLong)] 1 rfl (by decide) (all1 HVl.out) 2048 (by kernel_rfl) (by simp [xLong])).mono ?_
    rintro e w19 ⟨rfl, b⟩
    replace HPL := Lib.hid (HPL.out.grow b)
    replace HX := Lib.hid (HX.out.grow b)
    replace HVl := Lib.hid (HVl.out.grow b)
    have HS19 := Lib.hid (HS18.out.grow b)
    clear b HS18
    clear L K z
    clear HX
    clear HVl
    have HST := Lib.hid (SL.start w19)
    go_wp2_with (at_make; refine wpList_step ?_; intro K hK; rw [if_pos (by rfl)]
                 refine wp_makeS _ _ _ rfl bElem .i64 .i64 _ _ 256 rfl rfl rfl rfl (by decide) (by decide) HST.out ?_
                 intro gm wk Sm bm
                 have HSM := Lib.hid Sm
                 have HBM := Lib.hid bm
                 clear Sm bm
                 refine hK _ _ ?_
                 clear hK K)
    have b := HBM.out
    have hcm : CardAt wk (some ⟨gm, 0, none⟩) (List.replicate 256 0) 256 := by
      have h := HSM.out
      rw [← zeros_made] at h
      exact rowS_card (l := List.replicate 256 0) h
    have HVm := Lib.hid (show RecV wk ((.slice (some ⟨gm, 0, none⟩) 256 256, .slice none 0 0), xOver) from ⟨_, 256, none, 0, by simp [xOver], hcm, card_none⟩)
    clear hcm HSM HST HBM
    replace HPL := Lib.hid (HPL.out.grow b)
    have HS20 := Lib.hid (HS19.out.grow b)
    clear b HS19
    refine (valid_lit2 _ [((.slice (some ⟨gm, 0, none⟩) 256 256, .slice none 0 0), xOver)] 1 rfl (by decide) (all1 HVm.out) false (by kernel_rfl) (by simp [xOver])).mono ?_
    rintro e w21 ⟨rfl, b⟩
    clear HVm
    replace HPL := Lib.hid (HPL.out.grow b)
    have HS21 := Lib.hid (HS20.out.grow b)
    clear b HS20
    have hc := encode_any none [] 0 (-1) 0 (SL.start w21) RecsAt.nil ⟨by decide, by simp⟩
    rw [show encB (-1) 0 [] = [] by kernel_rfl, show encE (-1) 0 [] = 6 by kernel_rfl] at hc
    have HC := Lib.hid hc
    clear hc
    go_wp2_with fail
    refine HC.out.mono ?_
    rintro e w22 ⟨A22, c22, rfl, S22⟩
    have b := S22.below
    replace HPL := Lib.hid (HPL.out.grow b)
    have HS22 := Lib.hid (HS21.out.grow b)
    clear b HS21
    clear S22 HC
    have hc := encode_any none [] 0 0 65536 (SL.start w22) RecsAt.nil ⟨by decide, by simp⟩
    rw [show encB 0 65536 [] = [] by kernel_rfl, show encE 0 65536 [] = 6 by kernel_rfl] at hc
    have HC := Lib.hid hc
    clear hc
    go_wp2_with fail
    refine HC.out.mono ?_
    rintro e w23 ⟨A23, c23, rfl, S23⟩
    have b := S23.below
    replace HPL := Lib.hid (HPL.out.grow b)
    have HS23 := Lib.hid (HS22.out.grow b)
    clear b HS22
    clear S23 HC
    go_wp2_with fail
    refine (enc_lit _ 0 0 1 (by kernel_rfl) (by kernel_rfl)).mono ?_
    rintro e w24 ⟨Ax, nx, rfl, b⟩
    replace HPL := Lib.hid (HPL.out.grow b)
    have HS24 := Lib.hid (HS23.out.grow b)
    clear b HS23
    go_wp2_with fail
    refine (enc_lit _ 65536 0 6 (by kernel_rfl) (by kernel_rfl)).mono ?_
    rintro e w25 ⟨Ay, ny, rfl, b⟩
    replace HPL := Lib.hid (HPL.out.grow b)
    have HS25 := Lib.hid (HS24.out.grow b)
    clear b HS24
    have hcv := Lib.run_convert_bytes_const (P := Try.prog) w25 23 5 #[.int .u8 65] 1 1 Try.underlying23 Try.underlying5
    go_wp2_with fail
    clear hcv
    have HCK := Lib.hid (card_mark w25 (1, 2))
    have bk : Below w25.heap.size w25 (w25.alloc (.cells #[.int .u8 65] 5 (1, 2))) := (Below.refl _ _).alloc (Nat.le_refl _) _
    refine (rec_at 2 [65] [] 1 0 rfl rfl _ (by decide) (by decide)).mono ?_
    rintro e w26 ⟨Aki, cki, Adi, cdi, rfl, hvi, bi⟩
    have b := bk.trans (bi.mono bk.size)
    have HVi := Lib.hid hvi
    have HCK2 := Lib.hid (HCK.out.grow bi)
    clear hvi bi bk HCK
    replace HPL := Lib.hid (HPL.out.grow b)
    have HS26 := Lib.hid (HS25.out.grow b)
    clear b HS25
    generalize w25.heap.size = xk at *
    go_upto_region 18 with fail
    refine name_world (P := Code.wp _ _ _ _) ?_
    intro wT hwT
    have bT : Below w26.heap.size w26 wT := by rw [hwT]; (repeat' (first | (with_reducible exact Below.refl _ _) | (with_reducible assumption) | (with_reducible refine below_drewN ?_ _) | (with_reducible refine Below.drew ?_) | (with_reducible refine Below.alloc ?_ ?_ _) | (with_reducible refine Below.setCell ?_ ?_ _) | (with_reducible refine below_row ?_ ?_ _) | (with_reducible exact Nat.le_refl _) | omega | (simp only [World.size_alloc, World.size_setCell, World.size_drew, World.size_drewN]; omega) | (simp; done) | (simp; omega)))
    have HT := Lib.hid (show RecsAt wT (some ⟨w26.heap.size, 0, none⟩) tBads by rw [hwT]; exact recs_lit [((.slice (some ⟨xk, 0, none⟩) 1 1, .slice none 0 0), ⟨1, [65], [], true⟩), ((.slice Aki 1 cki, .slice Adi 0 cdi), ⟨2, [65], [], false⟩)] (all2 ⟨_, 1, none, 0, rfl, HCK2.out, card_none⟩ HVi.out) (by simp))
    clear hwT HCK2 HVi
    replace HPL := Lib.hid (HPL.out.grow bT)
    have HS27 := Lib.hid (HS26.out.grow bT)
    clear bT HS26
    generalize w26.heap.size = xt2 at *
    obtain ⟨gp, op, Bk, dk, Bd, dd, hA, k0, _, _, _, _, _⟩ := HPL.out 63 _ HP63.out
    subst hA
    simp only [Nat.reduceMul] at k0
    go_wp2_with fail
    refine (show Calls _ _ _ _ (fun e w' => e = .returned (.bool true) ∧ Below _ _ w') from (by have h := lat_any (some ⟨xt2, 0, none⟩) tBads 2 (-9) [65] false (1) _ HT.out (by decide) (by unfold maxLen; decide) (by decide); rw [show atB tBads (-9) [65] false (1) = true by kernel_rfl] at h; exact h)).mono ?_
    rintro e w28 ⟨rfl, b⟩
    replace HPL := Lib.hid (HPL.out.grow b)
    replace HT := Lib.hid (HT.out.grow b)
    have HS28 := Lib.hid (HS27.out.grow b)
    clear b HS27
    clear k0
    clear HPL
    go_wp2_with fail
    refine (show Calls _ _ _ _ (fun e w' => e = .returned (.bool true) ∧ Below _ _ w') from (by have h := lat_any (some ⟨xt2, 0, none⟩) tBads 2 (0) [] true (-1) _ HT.out (by decide) (by unfold maxLen; decide) (by decide); rw [show atB tBads (0) [] true (-1) = true by kernel_rfl] at h; exact h)).mono ?_
    rintro e w29 ⟨rfl, b⟩
    replace HT := Lib.hid (HT.out.grow b)
    have HS29 := Lib.hid (HS28.out.grow b)
    clear b HS28
    go_wp2_with fail
    refine (show Calls _ _ _ _ (fun e w' => e = .returned (.bool true) ∧ Below _ _ w') from (by have h := lat_any (some ⟨xt2, 0, none⟩) tBads 2 (2) [65] false (-1) _ HT.out (by decide) (by unfold maxLen; decide) (by decide); rw [show atB tBads (2) [65] false (-1) = true by kernel_rfl] at h; exact h)).mono ?_
    rintro e w30 ⟨rfl, b⟩
    replace HT := Lib.hid (HT.out.grow b)
    have HS30 := Lib.hid (HS29.out.grow b)
    clear b HS29
    clear HT
    go_wp2_with fail
    refine (works_any _).mono ?_
    rintro e w31 ⟨rfl, b⟩
    have HS31 := Lib.hid (HS30.out.grow b)
    clear b HS30
    go_wp2
    go_ret
    exact ⟨rfl, HBW.out.trans (HS31.out.below.mono HBW.out.size)⟩
end Go.Proofs.Ytelfihgkbbaifaa
