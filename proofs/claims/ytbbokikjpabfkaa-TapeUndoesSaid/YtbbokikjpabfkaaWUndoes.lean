/- The walk of TapeUndoes. -/
import Derived.Test.YtbbokikjpabfkaaLaw
namespace Go.Proofs.Ytbbokikjpabfkaa
open Go.RowKit

set_option maxRecDepth 100000 in
set_option maxHeartbeats 16000000 in
theorem walk_tapeUndoes (W : World) (a0 : Option Addr) (bs : List Blk) (c0 : Nat) (hl0 : bs.length ≤ c0) (hcm0 : c0 ≤ maxLen) (hat0 : BlksAt W a0 bs) (a1 : Option Addr) (l : List ActV) (c1 : Nat) (hl1 : l.length ≤ c1) (hcm1 : c1 ≤ maxLen) (hat1 : At W W.heap.size a1 (l.flatMap actCells)) (hgood : ∀ a ∈ l, ActV.good W W.heap.size a) :
    Calls Try.prog 6 #[.slice a0 bs.length c0, .slice a1 l.length c1] W fun e w' => e = .returned (.bool true) ∧ Below W.heap.size W w' := by
  have hd : ∀ a ∈ l, a.data.2.1.length ≤ maxLen := fun a ha => Nat.le_trans (hgood a ha).1.2.1 (hgood a ha).1.2.2
  have HB0 : Hid (∀ F, BlksRd W F a0 bs) := Lib.hid (fun F => BlksRd.base hat0)
  have HA1 : Hid (∀ F, Rd W F a1 (l.flatMap actCells)) := Lib.hid (fun F => Rd.base hat1)
  have HG := Lib.hid hgood
  have HW := Lib.hid works_any
  have hb0 : bs.length ≤ maxLen := by omega
  have hb1 : l.length ≤ maxLen := by omega
  have hz0 : bs.length ≤ 9223372036854775807 := by unfold maxLen at hb0; omega
  have hz1 : l.length ≤ 9223372036854775807 := by unfold maxLen at hb1; omega
  have HX := Lib.hid (And.intro hb0 (And.intro hb1 hd))
  clear hat0 hat1 hgood hl0 hcm0 hl1 hcm1 hb0 hb1 hd
  by_cases h1 : bs.length ≤ 100 ∧ ∀ b ∈ bs, b.data.length ≤ 1100
  · by_cases h2 : l.length ≤ 100 ∧ ∀ a ∈ l, a.data.2.1.length ≤ 1100
    · have HBN := Lib.hid (big_no a0 bs c0 (SL.start W) (HB0.out _) HX.out.1 h1)
      have HMN := Lib.hid (fun (w2 : World) (S2 : SL W [] w2) => many_no a1 l c1 S2 (HA1.out _) HX.out.2.1 HX.out.2.2 h2)
      have H12 := Lib.hid (And.intro h1 h2)
      have hb3 : bs.length ≤ 100 := h1.1
      have hl3 : l.length ≤ 100 := h2.1
      clear h1 h2
      rcases Nat.eq_zero_or_pos l.length with hl | hl
      · obtain rfl := List.length_eq_zero_iff.1 hl
        dsimp only [List.length_nil] at *
        go_enter Try.func6, Try.ntmps6
        go_wp2_with (first
          | ((with_reducible refine HBN.out.mono ?_); rintro e w2 ⟨rfl, S2⟩; have H2 := Lib.hid S2; clear S2)
          | ((with_reducible refine (HMN.out _ H2.out).mono ?_); rintro e w3 ⟨rfl, S3⟩; have H3 := Lib.hid S3; clear S3))
        go_ret
        exact ⟨rfl, H3.out.below⟩
      · have hl' : ((l.length : Int) == 0) = false := by rw [beq_eq_false_iff_ne]; omega
        have hfit : Fit bs := ⟨by omega, fun b hb => by have := H12.out.1.2 b hb; omega⟩
        have HFIT : Hid (∀ b ∈ bs, b.data.length ≤ 1073741824) := Lib.hid hfit.2
        have HCP := Lib.hid (fun (w2 : World) (S2 : SL W [] w2) => rcopy_any a0 bs c0 S2 (HB0.out _) hfit)
        clear hfit
        by_cases hne : newErr nmA bs = 0
        · go_enter Try.func6, Try.ntmps6
          go_upto_region 4 with (first
            | ((with_reducible refine HBN.out.mono ?_); rintro e w2 ⟨rfl, S2⟩; have H2 := Lib.hid S2; clear S2)
            | ((with_reducible refine (HMN.out _ H2.out).mono ?_); rintro e w3 ⟨rfl, S3⟩; have H3 := Lib.hid S3; clear S3)
            | ((with_reducible refine (HCP.out _ H3.out).mono ?_); rintro e w4 ⟨v4, rfl, S4⟩; obtain ⟨A4, c4, rfl, _, _⟩ := blksS_slice S4; have H4 := Lib.hid S4; clear S4)
            | ((with_reducible refine (newA_ok A4 bs c4 hne H4.out HX.out.1 HFIT.out).mono ?_); rintro e w5 ⟨tb, rfl, S5⟩; have H5 := Lib.hid S5; clear S5))
          have hok := newErr_ok hne
          have HS := Lib.hid (And.intro hok H5.out)
          clear hok H5 HBN HMN HCP hne
          go_wp2_with fail
          go_loopw [7] (fun i wr => ∃ (k : Nat) (s : TP), k ≤ l.length - 1 ∧ i = .int .i64 k ∧ s.ok ∧ SL W [tapeS tb nmA s] wr) (fun i _ => l.length - (intOf i).toNat)
          case atStart => exact ⟨0, _, Nat.zero_le _, rfl, HS.out.1, HS.out.2⟩
          case round =>
            obtain ⟨k, s, hk, rfl, hok, S1⟩ := hrel
            have HS1 := Lib.hid (And.intro hok S1)
            clear hok S1 HS
            obtain ⟨a, ha⟩ : ∃ a, l[k]? = some a := ⟨l[k]'(by omega), List.getElem?_eq_getElem (by omega)⟩
            obtain ⟨g, off, rfl, _⟩ := act_cells (HA1.out _) HS1.out.2 ha
            have HGA := Lib.hid (HG.out a (List.mem_of_getElem? ha))
            obtain ⟨kd, op, ⟨A5, d5, c5⟩, how⟩ := a
            have hd5 : d5.length ≤ 1100 := H12.out.2.2 _ (List.mem_of_getElem? ha)
            have HAC := Lib.hid ha
            clear ha
            obtain ⟨s1, ⟨rd, st, sn⟩, hr⟩ : ∃ s1 r, tpDo s op d5 = (s1, r) := ⟨_, _, rfl⟩
            have HDO := Lib.hid (fun (w2 : World) (F : List SA) (S2 : SL W (tapeS tb nmA s :: F) w2) => do_eq op A5 d5 c5 hr (by kernel_rfl) HS1.out.1 S2 (Rd.base HGA.out.1.1) (by omega))
            have HRR := Lib.hid hr
            clear hr
            by_cases hlt : k < l.length - 1
            · have hlt2 : k < l.length := by omega
              have hlt3 : (k : Int) < (l.length : Int) - 1 := by omega
              go_wp2_with fail
              refine wp_region_order (SL W _) [] [0, 1, 2, 3, 4, 5, 6, 7, 8, 9, 10] [] [] [11] (by kernel_rfl) (by kernel_rfl) HS1.out.2.drew (by intro c a d v w h; cases d <;> exact h) ?_
              simp only [pick, List.filterMap_cons, List.filterMap_nil, List.getElem?_cons_zero, List.getElem?_cons_succ]
              (repeat (refine wpPure_step (fun K hK => ?_); go_simp; refine hK _ ?_; clear hK K)); refine wpPure_nil ?_
              (repeat (refine wpLoads_step (fun K hK => ?_); go_simp; first | (refine hK _ ?_; clear hK K) | (refine ⟨_, fun wx S => (by obtain ⟨g0, g1, g2, g3⟩ := act_cells2 (HA1.out _) S HAC.out; dsimp only [cardV] at g0 g1 g2 g3; go_simp; rfl), hK _ ?_⟩; clear hK K)))
              refine wpLoads_nil (wpQuiet_nil ?_)
              intro wq hwq
              have H6 := Lib.hid hwq
              clear hwq
              refine wpKeep_nil ?_
              go_wp2_with ((with_reducible refine (HDO.out _ _ H6.out).mono ?_); rintro e w7 ⟨A7, c7, rfl, S7⟩; have H7 := Lib.hid S7.drop; clear S7)
              go_roundw
              case rel => exact ⟨k + 1, s1, by omega, by go_num, by have h := (do_ok s op d5 HS1.out.1).1; rw [HRR.out] at h; exact h, H7.out⟩
              case measure => simp [intOf]; omega
            · have e0 : (l.length : Int) - 1 = (k : Int) := by omega
              have hlt2 : k < l.length := by omega
              have hfit : Fit s.bs := HS1.out.1.fit
              have HBK := Lib.hid (blocks_any HS1.out.2 hfit)
              obtain ⟨s2, hu, hu1, hu2, hu3⟩ := undo_back s op d5 HS1.out.1
              rw [HRR.out] at hu hu3
              dsimp only at hu hu3
              obtain ⟨ok1, hst, hsn, _⟩ := do_ok s op d5 HS1.out.1
              rw [HRR.out] at ok1 hst
              dsimp only at ok1 hst
              have HU := Lib.hid (And.intro ok1 (And.intro hu (And.intro hu1 (And.intro hu2 hu3))))
              have HST := Lib.hid hst
              clear hfit hu hu1 hu2 hu3 ok1 hst
              go_upto_region 13 with (first
                | ((with_reducible refine HBK.out.mono ?_); rintro e w8 ⟨v8, rfl, S8⟩; obtain ⟨A8, c8, rfl, _, _⟩ := blksS_slice S8; have H8 := Lib.hid S8.s1; clear S8)
                | ((with_reducible refine (at_any H8.out).mono ?_); rintro e w9 ⟨rfl, S9⟩; have H9 := Lib.hid S9; obtain ⟨g0, g1, g2, g3⟩ := act_cells2 (HA1.out _) S9 HAC.out; dsimp only [cardV] at g0 g1 g2 g3; clear S9 H8)
                | ((with_reducible refine (HDO.out _ _ (SL.s1 (SL.allocC H9.out #[.int .i64 kd, .int .i64 op, .slice A5 d5.length c5, .int .i64 how] 45))).mono ?_); rintro e w10 ⟨A10, c10, rfl, S10⟩; have H10 := Lib.hid S10.drop; clear S10 g0 g1 g2 g3))
              have H11 := Lib.hid (H10.out.allocC #[.slice A10 rd.length c10, .int .i64 (st : Int), .int .i64 (sn : Int)] 31)
              refine name_world (P := Code.wp _ _ _ _) ?_
              intro wd hwd
              rw [← hwd] at H11
              clear hwd H10
              generalize w9.heap.size = ab at *
              generalize w10.heap.size = rb at *
              obtain ⟨L, K, z⟩ := H11.out.look
              obtain ⟨L2, K2, z2⟩ := H11.out.s2.look
              go_cut [12] (fun s12 wx => s12 = .bool (changed op (rd, st, sn)) ∧ wx = wd)
              case first =>
                rcases HST.out with rfl | rfl | rfl
                · by_cases e1 : op = 1
                  · subst e1
                    go_wp2
                    go_meet
                    case rel => exact ⟨rfl, rfl⟩
                  by_cases e2 : op = 31
                  · subst e2
                    go_wp2
                    go_meet
                    case rel => exact ⟨rfl, rfl⟩
                  by_cases e3 : op = 23
                  · subst e3
                    go_wp2
                    go_meet
                    case rel => exact ⟨rfl, rfl⟩
                  go_wp2
                  go_meet
                  case rel => exact ⟨by simp [changed, e1, e2, e3], rfl⟩
                · go_wp2
                  go_meet
                  case rel => exact ⟨rfl, rfl⟩
                · go_wp2
                  go_meet
                  case rel => exact ⟨rfl, rfl⟩
              case rest =>
                obtain ⟨rfl, rfl⟩ := hcut
                have HT := Lib.hid H11.out.drop
                clear H11 L K z L2 K2 z2 HST
                generalize changed op (rd, st, sn) = ch at *
                have HU3 := Lib.hid (undo_false 3 (Or.inr (Or.inl (by decide))) HT.out)
                have HUM := Lib.hid (fun (w2 : World) (F : List SA) (S2 : SL W (tapeS tb nmA s1 :: F) w2) => undo_false (-1) (Or.inl (by decide)) S2)
                have HU1 := Lib.hid (fun (w2 : World) (F : List SA) (S2 : SL W (tapeS tb nmA s1 :: F) w2) => undo_eq 1 HU.out.2.1 HU.out.1 S2)
                have HU0 := Lib.hid (fun (w2 : World) (F : List SA) (S2 : SL W (tapeS tb nmA s2 :: F) w2) => undo_false 1 (Or.inr (Or.inr HU.out.2.2.1)) S2)
                have HBB : Hid (∀ (w2 : World) (F : List SA), SL W (tapeS tb nmA s2 :: F) w2 → Calls Try.prog 12 #[.pointer (some ⟨tb, 0, none⟩)] w2 fun e w' => ∃ A c, e = .returned (.slice A s.bs.length c) ∧ SL W (blksS (.slice A s.bs.length c) s.bs :: tapeS tb nmA s2 :: F) w') := Lib.hid (fun w2 F S2 => (blocks_any S2 (by rw [HU.out.2.2.2.1]; exact HS1.out.1.fit)).mono fun e w' h => by
                  obtain ⟨v, rfl, h⟩ := h
                  rw [HU.out.2.2.2.1] at h
                  obtain ⟨A, c, rfl, _, _⟩ := blksS_slice h
                  exact ⟨A, c, rfl, h⟩)
                have HSM := Lib.hid (fun (w2 : World) (A15 : Option Addr) (c15 : Nat) (x y : SA) (S2 : SL W (blksS (.slice A15 s.bs.length c15) s.bs :: x :: y :: blksS (.slice A8 s.bs.length c8) s.bs :: []) w2) => rsame_any A15 A8 s.bs c15 c8 S2 BlksRd.head BlksRd.head.cons.cons.cons (by have := HS1.out.1.len; unfold maxLen; omega) (fun b hb => by have := HS1.out.1.data b hb; omega))
                have hpos : ch = true → ((s2.pos : Int) == (s.pos : Int)) = true := fun h => by rw [HU.out.2.2.2.2 h]; simp
                have HPOS := Lib.hid hpos
                clear hpos
                cases ch with
                | false =>
                  go_wp2_with (first
                    | ((with_reducible refine (HW.out _).mono ?_); rintro e w18 ⟨rfl, b18⟩; have H18 := Lib.hid (H17.out.grow b18); clear b18 H17)
                    | ((with_reducible refine (HSM.out _ A16 c16 _ _ H16.out).mono ?_); rintro e w17 ⟨rfl, S17⟩; have H17 := Lib.hid S17; clear S17 H16)
                    | ((with_reducible refine (HBB.out _ _ H15.out).mono ?_); rintro e w16 ⟨A16, c16, rfl, S16⟩; have H16 := Lib.hid S16; clear S16 H15)
                    | ((with_reducible refine (HU0.out _ _ H14.out).mono ?_); rintro e w15 ⟨rfl, S15⟩; have H15 := Lib.hid S15; clear S15 H14)
                    | ((with_reducible refine (HU1.out _ _ H13.out).mono ?_); rintro e w14 ⟨rfl, S14⟩; have H14 := Lib.hid S14; clear S14 H13)
                    | ((with_reducible refine (HUM.out _ _ H0.out).mono ?_); rintro e w13 ⟨rfl, S13⟩; have H13 := Lib.hid S13; clear S13 H0)
                    | ((with_reducible refine HU3.out.mono ?_); rintro e w12 ⟨rfl, S12⟩; have H0 := Lib.hid S12; clear S12 HT))
                  go_ret
                  exact ⟨rfl, H18.out.below⟩
                | true =>
                  have hp := HPOS.out rfl
                  go_wp2_with (first
                    | ((with_reducible refine (HW.out _).mono ?_); rintro e w18 ⟨rfl, b18⟩; have H18 := Lib.hid (H17.out.grow b18); clear b18 H17)
                    | ((with_reducible refine (HSM.out _ A16 c16 _ _ H16.out).mono ?_); rintro e w17 ⟨rfl, S17⟩; have H17 := Lib.hid S17; clear S17 H16)
                    | ((with_reducible refine (HBB.out _ _ HAT.out).mono ?_); rintro e w16 ⟨A16, c16, rfl, S16⟩; have H16 := Lib.hid S16; clear S16 HAT)
                    | ((with_reducible refine (at_any H15.out).mono ?_); rintro e wat ⟨rfl, SAT⟩; have HAT := Lib.hid SAT; clear SAT H15)
                    | ((with_reducible refine (HU0.out _ _ H14.out).mono ?_); rintro e w15 ⟨rfl, S15⟩; have H15 := Lib.hid S15; clear S15 H14)
                    | ((with_reducible refine (HU1.out _ _ H13.out).mono ?_); rintro e w14 ⟨rfl, S14⟩; have H14 := Lib.hid S14; clear S14 H13)
                    | ((with_reducible refine (HUM.out _ _ H0.out).mono ?_); rintro e w13 ⟨rfl, S13⟩; have H13 := Lib.hid S13; clear S13 H0)
                    | ((with_reducible refine HU3.out.mono ?_); rintro e w12 ⟨rfl, S12⟩; have H0 := Lib.hid S12; clear S12 HT))
                  go_ret
                  exact ⟨rfl, H18.out.below⟩
        · go_enter Try.func6, Try.ntmps6
          go_wp2_with (first
            | ((with_reducible refine HBN.out.mono ?_); rintro e w2 ⟨rfl, S2⟩; have H2 := Lib.hid S2; clear S2)
            | ((with_reducible refine (HMN.out _ H2.out).mono ?_); rintro e w3 ⟨rfl, S3⟩; have H3 := Lib.hid S3; clear S3)
            | ((with_reducible refine (HCP.out _ H3.out).mono ?_); rintro e w4 ⟨v4, rfl, S4⟩; obtain ⟨A4, c4, rfl, _, _⟩ := blksS_slice S4; have H4 := Lib.hid S4; clear S4)
            | ((with_reducible refine (newA_bad A4 bs c4 hne H4.out HX.out.1 HFIT.out).mono ?_); rintro e w5 ⟨n5, hn5, rfl, S5⟩; have H5 := Lib.hid S5; have hn6 : ((n5 : Int) != 0) = true := (by rw [bne_iff_ne]; omega); clear S5)
            | ((with_reducible refine (HW.out _).mono ?_); rintro e w6 ⟨rfl, b6⟩; have H6 := Lib.hid (H5.out.grow b6)))
          go_ret
          exact ⟨rfl, H6.out.below⟩
    · have HBN := Lib.hid (big_no a0 bs c0 (SL.start W) (HB0.out _) HX.out.1 h1)
      have HMN := Lib.hid (fun (w2 : World) (S2 : SL W [] w2) => many_yes a1 l c1 S2 (HA1.out _) HX.out.2.1 HX.out.2.2 h2)
      clear h1 h2
      go_enter Try.func6, Try.ntmps6
      go_wp2_with (first
        | ((with_reducible refine HBN.out.mono ?_); rintro e w2 ⟨rfl, S2⟩; have H2 := Lib.hid S2; clear S2)
        | ((with_reducible refine (HMN.out _ H2.out).mono ?_); rintro e w3 ⟨rfl, S3⟩; have H3 := Lib.hid S3; clear S3))
      go_ret
      exact ⟨rfl, H3.out.below⟩
  · have HBN := Lib.hid (big_yes a0 bs c0 (SL.start W) (HB0.out _) HX.out.1 h1)
    clear h1
    go_enter Try.func6, Try.ntmps6
    go_wp2_with ((with_reducible refine HBN.out.mono ?_); rintro e w2 ⟨rfl, S2⟩; have H2 := Lib.hid S2; clear S2)
    go_ret
    exact ⟨rfl, H2.out.below⟩
end Go.Proofs.Ytbbokikjpabfkaa
