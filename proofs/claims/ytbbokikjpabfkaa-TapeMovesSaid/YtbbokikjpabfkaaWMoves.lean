/- The walk of TapeMoves. -/
import Derived.Test.YtbbokikjpabfkaaLaw
namespace Go.Proofs.Ytbbokikjpabfkaa
open Go.RowKit

theorem BlksAt.take {w : World} {A : Option Addr} {bs : List Blk} (h : BlksAt w A bs) (k : Nat) : BlksAt w A (bs.take k) := fun i b hb => h i b (by
  rw [List.getElem?_take] at hb
  split at hb
  · exact hb
  · cases hb)
set_option maxRecDepth 100000 in
set_option maxHeartbeats 16000000 in
theorem walk_tapeMoves (W : World) (a0 : Option Addr) (bs : List Blk) (c0 : Nat) (hl0 : bs.length ≤ c0) (hcm0 : c0 ≤ maxLen) (hat0 : BlksAt W a0 bs) (a1 : Option Addr) (l : List ActV) (c1 : Nat) (hl1 : l.length ≤ c1) (hcm1 : c1 ≤ maxLen) (hat1 : At W W.heap.size a1 (l.flatMap actCells)) (hgood : ∀ a ∈ l, ActV.good W W.heap.size a) :
    Calls Try.prog 5 #[.slice a0 bs.length c0, .slice a1 l.length c1] W fun e w' => e = .returned (.bool true) ∧ Below W.heap.size W w' := by
  have hd : ∀ a ∈ l, a.data.2.1.length ≤ maxLen := fun a ha => Nat.le_trans (hgood a ha).1.2.1 (hgood a ha).1.2.2
  have HB0 : Hid (∀ F, BlksRd W F a0 bs) := Lib.hid (fun F => BlksRd.base hat0)
  have HA1 : Hid (∀ F, Rd W F a1 (l.flatMap actCells)) := Lib.hid (fun F => Rd.base hat1)
  have HG := Lib.hid hgood
  have HW := Lib.hid works_any
  have hb0 : bs.length ≤ maxLen := by omega
  have hb1 : l.length ≤ maxLen := by omega
  have hz0 : bs.length ≤ 9223372036854775807 := by unfold maxLen at hb0; omega
  have hz1 : l.length ≤ 9223372036854775807 := by unfold maxLen at hb1; omega
  have HX := Lib.hid (And.intro hb0 (And.intro hb1 hd))
  clear hat0 hat1 hgood hl0 hcm0 hl1 hcm1 hb0 hb1 hd
  by_cases h1 : bs.length ≤ 100 ∧ ∀ b ∈ bs, b.data.length ≤ 1100
  · by_cases h2 : l.length ≤ 100 ∧ ∀ a ∈ l, a.data.2.1.length ≤ 1100
    · have HBN := Lib.hid (big_no a0 bs c0 (SL.start W) (HB0.out _) HX.out.1 h1)
      have HMN := Lib.hid (fun (w2 : World) (S2 : SL W [] w2) => many_no a1 l c1 S2 (HA1.out _) HX.out.2.1 HX.out.2.2 h2)
      have H12 := Lib.hid (And.intro h1 h2)
      have hb3 : bs.length ≤ 100 := h1.1
      have hl3 : l.length ≤ 100 := h2.1
      clear h1 h2
      have hfit : Fit bs := ⟨by omega, fun b hb => by have := H12.out.1.2 b hb; omega⟩
      have HFIT : Hid (∀ b ∈ bs, b.data.length ≤ 1073741824) := Lib.hid hfit.2
      have HCP := Lib.hid (fun (w2 : World) (S2 : SL W [] w2) => rcopy_any a0 bs c0 S2 (HB0.out _) hfit)
      clear hfit
      by_cases hne : newErr nmA bs = 0
      · go_enter Try.func5, Try.ntmps5
        go_upto_region 4 with (first
          | ((with_reducible refine HBN.out.mono ?_); rintro e w2 ⟨rfl, S2⟩; have H2 := Lib.hid S2; clear S2)
          | ((with_reducible refine (HMN.out _ H2.out).mono ?_); rintro e w3 ⟨rfl, S3⟩; have H3 := Lib.hid S3; clear S3)
          | ((with_reducible refine (HCP.out _ H3.out).mono ?_); rintro e w4 ⟨v4, rfl, S4⟩; obtain ⟨A4, c4, rfl, _, _⟩ := blksS_slice S4; have H4 := Lib.hid S4; clear S4)
          | ((with_reducible refine (newA_ok A4 bs c4 hne H4.out HX.out.1 HFIT.out).mono ?_); rintro e w5 ⟨tb, rfl, S5⟩; have H5 := Lib.hid S5; clear S5))
        have hok := newErr_ok hne
        have HS := Lib.hid (And.intro hok H5.out)
        clear hok H5 HBN HMN HCP hne
        go_wp2_with fail
        go_loopw [7] (fun i wr => ∃ (k : Nat) (s : TP), k ≤ l.length ∧ i = .int .i64 k ∧ s.ok ∧ SL W [tapeS tb nmA s] wr) (fun i _ => l.length - (intOf i).toNat)
        case atStart => exact ⟨0, _, Nat.zero_le _, rfl, HS.out.1, HS.out.2⟩
        case round =>
          obtain ⟨k, s, hk, rfl, hok, S1⟩ := hrel
          have HS1 := Lib.hid (And.intro hok S1)
          clear hok S1 HS
          by_cases hlt : k < l.length
          · obtain ⟨a, ha⟩ : ∃ a, l[k]? = some a := ⟨l[k]'(by omega), List.getElem?_eq_getElem (by omega)⟩
            obtain ⟨g, off, rfl, _⟩ := act_cells (HA1.out _) HS1.out.2 ha
            have HGA := Lib.hid (HG.out a (List.mem_of_getElem? ha))
            obtain ⟨kd, op, ⟨A5, d5, c5⟩, how⟩ := a
            have hd5 : d5.length ≤ 1100 := H12.out.2.2 _ (List.mem_of_getElem? ha)
            have HAC := Lib.hid ha
            clear ha
            obtain ⟨s1, ⟨rd, st, sn⟩, hr⟩ : ∃ s1 r, tpDo s op d5 = (s1, r) := ⟨_, _, rfl⟩
            have HDO := Lib.hid (fun (w2 : World) (F : List SA) (S2 : SL W (tapeS tb nmA s :: F) w2) => do_eq op A5 d5 c5 hr (by kernel_rfl) HS1.out.1 S2 (Rd.base HGA.out.1.1) (by omega))
            have hdc := do_changes s op d5 HS1.out.1
            obtain ⟨ok1, hst, hsn, _⟩ := do_ok s op d5 HS1.out.1
            rw [hr] at hdc ok1 hst
            dsimp only at ok1 hst
            have HDC := Lib.hid (And.intro hdc ok1)
            have HBK := Lib.hid (blocks_any HS1.out.2 HS1.out.1.fit)
            have HBB : Hid (∀ (w2 : World) (F : List SA), SL W (tapeS tb nmA s1 :: F) w2 → Calls Try.prog 12 #[.pointer (some ⟨tb, 0, none⟩)] w2 fun e w' => ∃ A c, e = .returned (.slice A s1.bs.length c) ∧ s1.bs.length ≤ c ∧ SL W (blksS (.slice A s1.bs.length c) s1.bs :: tapeS tb nmA s1 :: F) w') := Lib.hid (fun w2 F S2 => (blocks_any S2 ok1.fit).mono fun e w' h => by
              obtain ⟨v, rfl, h⟩ := h
              obtain ⟨A, c, rfl, hc, _⟩ := blksS_slice h
              exact ⟨A, c, rfl, hc, h⟩)
            have HST := Lib.hid hst
            have hp1 := ok1.pos
            have hn1 := ok1.len
            have hp0 := HS1.out.1.pos
            have hn0 := HS1.out.1.len
            clear hdc hst hr
            go_upto_region 13 with (first
              | ((with_reducible refine (HBB.out _ _ (SL.s1 (SL.allocC H10.out #[.slice A10 rd.length c10, .int .i64 (st : Int), .int .i64 (sn : Int)] 31))).mono ?_); rintro e w12 ⟨A12, c12, rfl, hc12, S12⟩; have HT := Lib.hid S12; clear S12 H10)
              | ((with_reducible refine HBK.out.mono ?_); rintro e w8 ⟨v8, rfl, S8⟩; obtain ⟨A8, c8, rfl, hc8, _⟩ := blksS_slice S8; have H8 := Lib.hid S8.s1; clear S8)
              | ((with_reducible refine (at_any H8.out).mono ?_); rintro e w9 ⟨rfl, S9⟩; have H9 := Lib.hid S9; obtain ⟨g0, g1, g2, g3⟩ := act_cells2 (HA1.out _) S9 HAC.out; dsimp only [cardV] at g0 g1 g2 g3; clear S9 H8)
              | ((with_reducible refine (HDO.out _ _ H9.out).mono ?_); rintro e w10 ⟨A10, c10, rfl, S10⟩; have H10 := Lib.hid S10.drop; clear S10 g0 g1 g2 g3 H9))
            generalize w10.heap.size = rb at *
            obtain ⟨q, hq⟩ : ∃ q, (op == 1 || op == 31 || op == 23) = q := ⟨_, rfl⟩
            have HQ := Lib.hid hq
            clear hq
            go_cut [13] from 33 to 109 (fun s13 wx => s13 = .bool q ∧ wx = w12)
            case first =>
              by_cases e1 : op = 1
              · subst e1
                go_wp2
                go_meet
                case rel => exact ⟨by rw [← HQ.out]; rfl, rfl⟩
              by_cases e2 : op = 31
              · subst e2
                go_wp2
                go_meet
                case rel => exact ⟨by rw [← HQ.out]; rfl, rfl⟩
              by_cases e3 : op = 23
              · subst e3
                go_wp2
                go_meet
                case rel => exact ⟨by rw [← HQ.out]; rfl, rfl⟩
              go_wp2
              go_meet
              case rel => exact ⟨by rw [← HQ.out] <;> simp [e1, e2, e3], rfl⟩
            case rest =>
              obtain ⟨rfl, rfl⟩ := hcut
              obtain ⟨L, K, z⟩ := HT.out.s2.look
              have t1 : decide ((s1.pos : Int) < 0) = false := by simp
              cases q with
              | false =>
                have hb : s1.bs = s.bs := (HDC.out.1.same (by unfold changed; rw [HQ.out]; simp)).2
                rw [hb] at hp1
                have HSM := Lib.hid (rsame_any A8 A12 s.bs c8 c12 HT.out BlksRd.head.cons.cons.cons (by rw [← hb]; exact BlksRd.head) (by unfold maxLen; omega) (fun b hb => by have := HS1.out.1.data b hb; omega))
                go_wp2_with (first
                  | ((with_reducible refine HSM.out.mono ?_); rintro e w13 ⟨rfl, S13⟩; have H13 := Lib.hid S13.s1; clear S13 HT)
                  | ((with_reducible refine (at_any H14.out).mono ?_); rintro e w15 ⟨rfl, S15⟩; have H15 := Lib.hid S15; clear S15 H14)
                  | ((with_reducible refine (at_any H13.out).mono ?_); rintro e w14 ⟨rfl, S14⟩; have H14 := Lib.hid S14; clear S14 H13))
                go_roundw
                case rel => exact ⟨k + 1, s1, by omega, by go_num, HDC.out.2, H15.out.only⟩
                case measure => simp [intOf]; omega
              | true =>
                by_cases h12 : st = 12
                · have hch : changed op (rd, st, sn) = true := by unfold changed; rw [HQ.out]; simp [h12]
                  obtain ⟨_, hb1, hb2, hb4⟩ := HDC.out.1.wrote hch
                  dsimp only at hb1 hb2 hb4
                  have HB1 := Lib.hid hb1
                  subst h12
                  clear hb1 hch
                  have t2 : ((s1.pos : Int) != (s1.bs.length : Int)) = false := by rw [hb2]; simp
                  have t3 : decide ((s1.bs.length : Int) < (s.pos : Int)) = false := by simp; omega
                  have ht : (s.bs.take s.pos).length = s.pos := by rw [List.length_take]; omega
                  have hk12 : s.pos ≤ c12 := by omega
                  have hk8 : s.pos ≤ c8 := by omega
                  have HSM2 : Hid (∀ w2 : World, SL W [blksS (.slice A12 s1.bs.length c12) s1.bs, tapeS tb nmA s1, cel rb #[.slice A10 rd.length c10, .int .i64 (12 : Int), .int .i64 (sn : Int)] 31, blksS (.slice A8 s.bs.length c8) s.bs] w2 → Calls Try.prog 20 #[.slice A8 s.pos c8, .slice A12 s.pos c12] w2 fun e w' => e = .returned (.bool true) ∧ SL W [blksS (.slice A12 s1.bs.length c12) s1.bs, tapeS tb nmA s1, cel rb #[.slice A10 rd.length c10, .int .i64 (12 : Int), .int .i64 (sn : Int)] 31, blksS (.slice A8 s.bs.length c8) s.bs] w') := Lib.hid (fun w2 S2 => by
                    have h := rsame_any A8 A12 (s.bs.take s.pos) c8 c12 S2 (fun w S => (blksS_at S.drop.drop.drop).take s.pos) (fun w S => by have h := (blksS_at S).take s.pos; rw [HB1.out] at h; exact h) (by rw [ht]; unfold maxLen; omega) (fun b hb => by have := HS1.out.1.data b (List.mem_of_mem_take hb); omega)
                    rw [ht] at h
                    exact h)
                  go_wp2_with fail
                  refine wp_region_quiet (C := SL W _) (by kernel_rfl) (by kernel_rfl) HT.out.drew ?_
                  (repeat (refine wpQuiet_step (fun K hK => ?_); go_simp; first | (refine hK _ ?_; clear hK K) | (refine ⟨_, fun _ _ => rfl, hK _ ?_⟩; clear hK K) | (refine ⟨_, fun wx hx => (at_any (SL.s1 hx)).mono (fun e w' h => ⟨h.1, h.2.s1⟩), hK _ ?_⟩; clear hK K) | (refine ⟨_, fun wx hx => HSM2.out wx hx, hK _ ?_⟩; clear hK K)))
                  refine wpQuiet_nil ?_
                  intro wq hwq
                  have H13 := Lib.hid hwq.s1
                  clear hwq
                  go_wp2_with (first
                    | ((with_reducible refine (at_any H14.out).mono ?_); rintro e w15 ⟨rfl, S15⟩; have H15 := Lib.hid S15; clear S15 H14)
                    | ((with_reducible refine (at_any H13.out).mono ?_); rintro e w14 ⟨rfl, S14⟩; have H14 := Lib.hid S14; clear S14 H13))
                  go_roundw
                  case rel => exact ⟨k + 1, s1, by omega, by go_num, HDC.out.2, H15.out.only⟩
                  case measure => simp [intOf]; omega
                · have h13 : ((st : Int) != 12) = true := by rw [bne_iff_ne]; omega
                  have hb : s1.bs = s.bs := (HDC.out.1.same (by unfold changed; simp [h12])).2
                  rw [hb] at hp1
                  have HSM := Lib.hid (rsame_any A8 A12 s.bs c8 c12 HT.out BlksRd.head.cons.cons.cons (by rw [← hb]; exact BlksRd.head) (by unfold maxLen; omega) (fun b hb => by have := HS1.out.1.data b hb; omega))
                  go_wp2_with (first
                    | ((with_reducible refine HSM.out.mono ?_); rintro e w13 ⟨rfl, S13⟩; have H13 := Lib.hid S13.s1; clear S13 HT)
                    | ((with_reducible refine (at_any H14.out).mono ?_); rintro e w15 ⟨rfl, S15⟩; have H15 := Lib.hid S15; clear S15 H14)
                    | ((with_reducible refine (at_any H13.out).mono ?_); rintro e w14 ⟨rfl, S14⟩; have H14 := Lib.hid S14; clear S14 H13))
                  go_roundw
                  case rel => exact ⟨k + 1, s1, by omega, by go_num, HDC.out.2, H15.out.only⟩
                  case measure => simp [intOf]; omega
          · obtain rfl : k = l.length := by omega
            go_wp2_with ((with_reducible refine (HW.out _).mono ?_); rintro e w6 ⟨rfl, b6⟩; have H6 := Lib.hid (HS1.out.2.grow b6))
            go_ret
            exact ⟨rfl, H6.out.below⟩
      · go_enter Try.func5, Try.ntmps5
        go_wp2_with (first
          | ((with_reducible refine HBN.out.mono ?_); rintro e w2 ⟨rfl, S2⟩; have H2 := Lib.hid S2; clear S2)
          | ((with_reducible refine (HMN.out _ H2.out).mono ?_); rintro e w3 ⟨rfl, S3⟩; have H3 := Lib.hid S3; clear S3)
          | ((with_reducible refine (HCP.out _ H3.out).mono ?_); rintro e w4 ⟨v4, rfl, S4⟩; obtain ⟨A4, c4, rfl, _, _⟩ := blksS_slice S4; have H4 := Lib.hid S4; clear S4)
          | ((with_reducible refine (newA_bad A4 bs c4 hne H4.out HX.out.1 HFIT.out).mono ?_); rintro e w5 ⟨n5, hn5, rfl, S5⟩; have H5 := Lib.hid S5; have hn6 : ((n5 : Int) != 0) = true := (by rw [bne_iff_ne]; omega); clear S5)
          | ((with_reducible refine (HW.out _).mono ?_); rintro e w6 ⟨rfl, b6⟩; have H6 := Lib.hid (H5.out.grow b6)))
        go_ret
        exact ⟨rfl, H6.out.below⟩
    · have HBN := Lib.hid (big_no a0 bs c0 (SL.start W) (HB0.out _) HX.out.1 h1)
      have HMN := Lib.hid (fun (w2 : World) (S2 : SL W [] w2) => many_yes a1 l c1 S2 (HA1.out _) HX.out.2.1 HX.out.2.2 h2)
      clear h1 h2
      go_enter Try.func5, Try.ntmps5
      go_wp2_with (first
        | ((with_reducible refine HBN.out.mono ?_); rintro e w2 ⟨rfl, S2⟩; have H2 := Lib.hid S2; clear S2)
        | ((with_reducible refine (HMN.out _ H2.out).mono ?_); rintro e w3 ⟨rfl, S3⟩; have H3 := Lib.hid S3; clear S3))
      go_ret
      exact ⟨rfl, H3.out.below⟩
  · have HBN := Lib.hid (big_yes a0 bs c0 (SL.start W) (HB0.out _) HX.out.1 h1)
    clear h1
    go_enter Try.func5, Try.ntmps5
    go_wp2_with ((with_reducible refine HBN.out.mono ?_); rintro e w2 ⟨rfl, S2⟩; have H2 := Lib.hid S2; clear S2)
    go_ret
    exact ⟨rfl, H2.out.below⟩
end Go.Proofs.Ytbbokikjpabfkaa
