/- The walk of TapeNew. -/
import Derived.Test.YtbbokikjpabfkaaLike
import Derived.Test.YtbbokikjpabfkaaWide
namespace Go.Proofs.Ytbbokikjpabfkaa
open Go.RowKit

theorem newErr_long {s : ByteArray} {bs : List Blk} (h : 4096 < bs.length) : newErr s bs ≠ 0 := by
  unfold newErr
  split
  · decide
  · decide
section
variable {W w : World} {F : List SA}
theorem new_long (s : ByteArray) (A : Option Addr) (bs : List Blk) (c : Nat) (S : SL W F w) (hs : s.size ≤ 1073741824) (hb : bs.length ≤ maxLen) (hl : 4096 < bs.length) :
    Calls Try.prog 10 #[.string s, .slice A bs.length c] w fun e w' => e = .returned (.tuple #[.pointer none, .int .i64 (newErr s bs : Int)]) ∧ SL W F w' := by
  have HS := Lib.hid S
  have HI := Lib.hid (isserial_any s w hs)
  have hz : bs.length ≤ 9223372036854775807 := by unfold maxLen at hb; omega
  clear S hb
  cases h1 : serOk s with
  | false =>
    have e1 : newErr s bs = 1 := by unfold newErr; rw [if_pos h1]
    rw [h1] at HI
    rw [e1]
    go_enter Try.func10, Try.ntmps10
    go_wp2_with ((with_reducible refine HI.out.mono ?_); rintro e w2 ⟨rfl, b2⟩; have H2 := Lib.hid (HS.out.grow b2); clear b2)
    exact bodyPost_ret (v := .tuple #[.pointer none, .int .i64 1]) (by simp [results, Try.results10, go_sem]) rfl ⟨rfl, H2.out⟩
  | true =>
    have e1 : newErr s bs = 2 := by unfold newErr; rw [if_neg (by simp [h1]), if_pos hl]
    rw [h1] at HI
    rw [e1]
    go_enter Try.func10, Try.ntmps10
    go_wp2_with ((with_reducible refine HI.out.mono ?_); rintro e w2 ⟨rfl, b2⟩; have H2 := Lib.hid (HS.out.grow b2); clear b2)
    exact bodyPost_ret (v := .tuple #[.pointer none, .int .i64 2]) (by simp [results, Try.results10, go_sem]) rfl ⟨rfl, H2.out⟩
theorem qnew_long (s : ByteArray) (A : Option Addr) (bs : List Blk) (c : Nat) (S : SL W F w) (hs : s.size ≤ 1073741824) (hb : bs.length ≤ maxLen) (hl : 4096 < bs.length) :
    Calls Try.prog 22 #[.string s, .slice A bs.length c] w fun e w' => e = .returned (.tuple #[.pointer none, .int .i64 (newErr s bs : Int)]) ∧ SL W F w' := by
  have HS := Lib.hid S
  have HI := Lib.hid (qserial_any s w hs)
  have hz : bs.length ≤ 9223372036854775807 := by unfold maxLen at hb; omega
  clear S hb
  cases h1 : serOk s with
  | false =>
    have e1 : newErr s bs = 1 := by unfold newErr; rw [if_pos h1]
    rw [h1] at HI
    rw [e1]
    go_enter Try.func22, Try.ntmps22
    go_wp2_with ((with_reducible refine HI.out.mono ?_); rintro e w2 ⟨rfl, b2⟩; have H2 := Lib.hid (HS.out.grow b2); clear b2)
    exact bodyPost_ret (v := .tuple #[.pointer none, .int .i64 1]) (by simp [results, Try.results22, go_sem]) rfl ⟨rfl, H2.out⟩
  | true =>
    have e1 : newErr s bs = 2 := by unfold newErr; rw [if_neg (by simp [h1]), if_pos hl]
    rw [h1] at HI
    rw [e1]
    go_enter Try.func22, Try.ntmps22
    go_wp2_with ((with_reducible refine HI.out.mono ?_); rintro e w2 ⟨rfl, b2⟩; have H2 := Lib.hid (HS.out.grow b2); clear b2)
    exact bodyPost_ret (v := .tuple #[.pointer none, .int .i64 2]) (by simp [results, Try.results22, go_sem]) rfl ⟨rfl, H2.out⟩
theorem new_ok (s : ByteArray) (A : Option Addr) (bs : List Blk) (c : Nat) (he : newErr s bs = 0) (S : SL W F w) (hr : BlksRd W F A bs) (hs : s.size ≤ 1073741824) (hb : bs.length ≤ maxLen) (hd : ∀ b ∈ bs, b.data.length ≤ 1073741824) :
    Calls Try.prog 10 #[.string s, .slice A bs.length c] w fun e w' => ∃ tb, e = .returned (.tuple #[.pointer (some ⟨tb, 0, none⟩), .int .i64 0]) ∧ SL W (tapeS tb s (freshTP bs) :: F) w' := new_eq s A bs c he S hr hs hb hd
theorem new_bad (s : ByteArray) (A : Option Addr) (bs : List Blk) (c : Nat) (he : newErr s bs ≠ 0) (S : SL W F w) (hr : BlksRd W F A bs) (hs : s.size ≤ 1073741824) (hb : bs.length ≤ maxLen) (hd : ∀ b ∈ bs, b.data.length ≤ 1073741824) :
    Calls Try.prog 10 #[.string s, .slice A bs.length c] w fun e w' => e = .returned (.tuple #[.pointer none, .int .i64 (newErr s bs : Int)]) ∧ SL W F w' :=
  (new_any s A bs c S hr hs hb hd).mono fun e w' h => by
    unfold NewS at h
    rw [if_neg he] at h
    exact h
theorem qnew_ok (s : ByteArray) (A : Option Addr) (bs : List Blk) (c : Nat) (he : newErr s bs = 0) (S : SL W F w) (hr : BlksRd W F A bs) (hs : s.size ≤ 1073741824) (hb : bs.length ≤ maxLen) (hd : ∀ b ∈ bs, b.data.length ≤ 1073741824) :
    Calls Try.prog 22 #[.string s, .slice A bs.length c] w fun e w' => ∃ qb, e = .returned (.tuple #[.pointer (some ⟨qb, 0, none⟩), .int .i64 0]) ∧ SL W (qS qb s (freshTP bs) :: F) w' :=
  (qnew_any s A bs c S hr hs hb hd).mono fun e w' h => by
    unfold QNewS at h
    rw [if_pos he] at h
    exact h
theorem qnew_bad (s : ByteArray) (A : Option Addr) (bs : List Blk) (c : Nat) (he : newErr s bs ≠ 0) (S : SL W F w) (hr : BlksRd W F A bs) (hs : s.size ≤ 1073741824) (hb : bs.length ≤ maxLen) (hd : ∀ b ∈ bs, b.data.length ≤ 1073741824) :
    Calls Try.prog 22 #[.string s, .slice A bs.length c] w fun e w' => e = .returned (.tuple #[.pointer none, .int .i64 (newErr s bs : Int)]) ∧ SL W F w' :=
  (qnew_any s A bs c S hr hs hb hd).mono fun e w' h => by
    unfold QNewS at h
    rw [if_neg he] at h
    exact h
end
set_option maxRecDepth 100000 in
set_option maxHeartbeats 16000000 in
theorem walk_tapeNew (W : World) (sr : ByteArray) (hs : sr.size ≤ maxLen) (a0 : Option Addr) (bs : List Blk) (c0 : Nat) (hl0 : bs.length ≤ c0) (hcm0 : c0 ≤ maxLen) (hat0 : BlksAt W a0 bs) (hw40 : bs.length * 40 ≤ 140737488351232) (hwd : ∀ b ∈ bs, b.data.length ≤ 140737488351232) :
    Calls Try.prog 7 #[.string sr, .slice a0 bs.length c0] W fun e w' => e = .returned (.bool true) ∧ Below W.heap.size W w' := by
  have HB0 : Hid (∀ F, BlksRd W F a0 bs) := Lib.hid (fun F => BlksRd.base hat0)
  have HFW : Hid (FitW bs) := Lib.hid ⟨hw40, hwd⟩
  have HW := Lib.hid works_any
  have hb0 : bs.length ≤ maxLen := by omega
  have hz0 : bs.length ≤ 9223372036854775807 := by unfold maxLen at hb0; omega
  have hz1 : sr.size ≤ 9223372036854775807 := by unfold maxLen at hs; omega
  have HX := Lib.hid hb0
  clear hat0 hl0 hcm0 hb0 hs hw40 hwd
  by_cases h1000 : 1000 < sr.size
  · go_enter Try.func7, Try.ntmps7
    go_wp2
    go_ret
    exact ⟨rfl, Below.refl _ _⟩
  · have hsr : sr.size ≤ 1073741824 := by omega
    have hee : ((newErr sr bs : Int) != (newErr sr bs : Int)) = false := by simp
    by_cases h1 : bs.length ≤ 100 ∧ ∀ b ∈ bs, b.data.length ≤ 1100
    · have HBN := Lib.hid (big_no a0 bs c0 (SL.start W) (HB0.out _) HX.out h1)
      have hb3 : bs.length ≤ 100 := h1.1
      have HFD : Hid (∀ b ∈ bs, b.data.length ≤ 1073741824) := Lib.hid (fun b hb => by have := h1.2 b hb; omega)
      have hfit : Fit bs := ⟨by omega, HFD.out⟩
      have HCP := Lib.hid (fun (w2 : World) (S2 : SL W [] w2) => rcopy_any a0 bs c0 S2 (HB0.out _) hfit)
      have H1 := Lib.hid h1
      clear hfit h1
      by_cases hne : newErr sr bs = 0
      · go_enter Try.func7, Try.ntmps7
        go_upto_region 12 with (first
          | ((with_reducible refine HBN.out.mono ?_); rintro e w2 ⟨rfl, S2⟩; have H2 := Lib.hid S2; clear S2)
          | ((with_reducible refine (HCP.out _ H2.out).mono ?_); rintro e w4 ⟨v4, rfl, S4⟩; obtain ⟨A4, c4, rfl, _, _⟩ := blksS_slice S4; have H4 := Lib.hid S4; clear S4)
          | ((with_reducible refine (new_ok sr A4 bs c4 hne H4.out BlksRd.head hsr HX.out HFD.out).mono ?_); rintro e w5 ⟨tb, rfl, S5⟩; have H5 := Lib.hid S5; clear S5 H4)
          | ((with_reducible refine (qnew_ok sr a0 bs c0 hne H5.out (HB0.out _) hsr HX.out HFD.out).mono ?_); rintro e w6 ⟨qb, rfl, S6⟩; have H6 := Lib.hid S6.b2; clear S6 H5)
          | ((with_reducible refine (rsame_any A4 a0 bs c4 c0 H6.out.s1 BlksRd.head (HB0.out _) HX.out HFD.out).mono ?_); rintro e w7 ⟨rfl, S7⟩; have H7 := Lib.hid S7; clear S7 H6))
        have HOK := Lib.hid (newErr_ok hne)
        have hd : ∀ b ∈ bs, b.data.length ≤ 1100 := H1.out.2
        clear HBN HCP hne
        go_wp2_with fail
        go_loopw [10] (fun i wr => ∃ (k : Nat) (bs' : List Blk), k ≤ bs.length ∧ i = .int .i64 k ∧ lens bs' = lens bs ∧ SL W [blksS (.slice A4 bs.length c4) bs', tapeS tb sr (freshTP bs), qS qb sr (freshTP bs)] wr) (fun i _ => bs.length - (intOf i).toNat)
        case atStart => exact ⟨0, _, Nat.zero_le _, rfl, rfl, H7.out⟩
        case round =>
          obtain ⟨k, bs', hk, rfl, hls, S1⟩ := hrel
          have HL2 := Lib.hid hls
          have H8 := Lib.hid S1
          clear S1 hls H7
          by_cases hlt : k < bs.length
          · obtain ⟨b0, b, hb0, hb, hbl⟩ := lens_some HL2.out hlt
            have hd0 : b0.data.length ≤ 1100 := hd b0 (List.mem_of_getElem? hb0)
            have hlen : bs.length = bs'.length := by have h := lens_len HL2.out; simp only [lens, List.length_map] at h; exact h.symm
            obtain ⟨g, A5, c5, rfl, _⟩ := blk_addr H8.out hlen hb
            have HB1 := Lib.hid hb0
            clear hb hb0 hbl hlen
            go_wp2_with fail
            refine name_world (P := Code.wp _ _ _ _) ?_
            intro wo hwo
            rw [← hwo] at H8
            clear hwo
            go_loopw [11] (fun j wx => ∃ (i : Nat) (bs3 : List Blk), i ≤ b0.data.length ∧ j = .int .i64 i ∧ lens bs3 = lens bs ∧ SL W [blksS (.slice (some ⟨g, 0, none⟩) bs.length c4) bs3, tapeS tb sr (freshTP bs), qS qb sr (freshTP bs)] wx) (fun j _ => b0.data.length - (intOf j).toNat)
            case atStart => exact ⟨0, _, Nat.zero_le _, rfl, HL2.out, H8.out⟩
            case round =>
              obtain ⟨i, bs3, hi, rfl, hls, S3⟩ := hrel
              have HL3 := Lib.hid hls
              have H9 := Lib.hid S3
              clear S3 hls H8 HL2
              obtain ⟨b1, b3, hb1, hb3, hbl⟩ := lens_some HL3.out hlt
              obtain rfl : b1 = b0 := by have h := HB1.out; rw [hb1] at h; injection h
              have hlen : bs.length = bs3.length := by have h := lens_len HL3.out; simp only [lens, List.length_map] at h; exact h.symm
              by_cases hil : i < b1.data.length
              · obtain ⟨gd, cd, p0, p1, p2, hS⟩ := setdata (k := i) H9.out hlen hb3 (by omega)
                have hdl := lens_data bs3 k i b3 hb3
                have hS := hS ((b3.data[i]'(by omega)) + 1)
                have HL4 := Lib.hid ((hdl ((b3.data[i]'(by omega)) + 1)).trans HL3.out)
                generalize b3.data[i]'(by omega) = x at *
                have hx1 := x.toNat_lt
                have hwrap : ((x.toNat : Int) + 1) % 256 = ((x + 1).toNat : Int) := by
                  rw [UInt8.toNat_add]
                  rfl
                rw [hbl] at p0
                generalize x + 1 = y at *
                have H10 := Lib.hid hS
                clear hS hdl hb3 H9
                go_wp2
                go_roundw
                case rel => exact ⟨i + 1, _, by omega, by go_num, HL4.out, H10.out⟩
                case measure => simp [intOf]; omega
              · obtain ⟨g', A6, c6, hg, p0⟩ := blk_addr H9.out hlen hb3
                injection hg with hg; injection hg with hg; subst hg
                rw [hbl] at p0
                go_wp2
                go_roundw
                case rel => exact ⟨k + 1, bs3, by omega, by go_num, HL3.out, H9.out⟩
                case measure => simp [intOf]; omega
          · obtain rfl : k = bs.length := by omega
            have HT := Lib.hid H8.out.drop
            clear H8
            go_wp2_with (first
              | ((with_reducible refine (HW.out _).mono ?_); rintro e w9 ⟨rfl, b9⟩; have H9 := Lib.hid (HV.out.grow b9))
              | ((with_reducible refine (like_any HU.out HOK.out).mono ?_); rintro e w8 ⟨rfl, S8⟩; have HV := Lib.hid S8; clear S8 HU)
              | ((with_reducible refine (like_any HT.out HOK.out).mono ?_); rintro e w7 ⟨rfl, S7⟩; have HU := Lib.hid S7; clear S7 HT))
            go_ret
            exact ⟨rfl, H9.out.below⟩
      · go_enter Try.func7, Try.ntmps7
        go_wp2_with (first
          | ((with_reducible refine HBN.out.mono ?_); rintro e w2 ⟨rfl, S2⟩; have H2 := Lib.hid S2; clear S2)
          | ((with_reducible refine (HCP.out _ H2.out).mono ?_); rintro e w4 ⟨v4, rfl, S4⟩; obtain ⟨A4, c4, rfl, _, _⟩ := blksS_slice S4; have H4 := Lib.hid S4; clear S4)
          | ((with_reducible refine (new_bad sr A4 bs c4 hne H4.out BlksRd.head hsr HX.out HFD.out).mono ?_); rintro e w5 ⟨rfl, S5⟩; have H5 := Lib.hid S5; clear S5 H4)
          | ((with_reducible refine (qnew_bad sr a0 bs c0 hne H5.out (HB0.out _) hsr HX.out HFD.out).mono ?_); rintro e w6 ⟨rfl, S6⟩; have H6 := Lib.hid S6; clear S6 H5)
          | ((with_reducible refine (HW.out _).mono ?_); rintro e w9 ⟨rfl, b9⟩; have H9 := Lib.hid (H6.out.grow b9)))
        go_ret
        exact ⟨rfl, H9.out.below⟩
    · have HBN := Lib.hid (big_yes a0 bs c0 (SL.start W) (HB0.out _) HX.out h1)
      clear h1
      by_cases h2 : bs.length ≤ 4096
      · go_enter Try.func7, Try.ntmps7
        go_wp2_with ((with_reducible refine HBN.out.mono ?_); rintro e w2 ⟨rfl, S2⟩; have H2 := Lib.hid S2; clear S2)
        go_ret
        exact ⟨rfl, H2.out.below⟩
      · have h3 : 4096 < bs.length := by omega
        have HCP := Lib.hid (fun (w2 : World) (S2 : SL W [] w2) => rcopy_wide a0 bs c0 S2 (HB0.out _) HFW.out)
        go_enter Try.func7, Try.ntmps7
        go_wp2_with (first
          | ((with_reducible refine HBN.out.mono ?_); rintro e w2 ⟨rfl, S2⟩; have H2 := Lib.hid S2; clear S2)
          | ((with_reducible refine (HCP.out _ H2.out).mono ?_); rintro e w4 ⟨v4, rfl, S4⟩; obtain ⟨A4, c4, rfl, _, _⟩ := blksS_slice S4; have H4 := Lib.hid S4; clear S4)
          | ((with_reducible refine (new_long sr A4 bs c4 H4.out hsr HX.out h3).mono ?_); rintro e w5 ⟨rfl, S5⟩; have H5 := Lib.hid S5; clear S5 H4)
          | ((with_reducible refine (qnew_long sr a0 bs c0 H5.out hsr HX.out h3).mono ?_); rintro e w6 ⟨rfl, S6⟩; have H6 := Lib.hid S6; clear S6 H5)
          | ((with_reducible refine (HW.out _).mono ?_); rintro e w9 ⟨rfl, b9⟩; have H9 := Lib.hid (H6.out.grow b9)))
        go_ret
        exact ⟨rfl, H9.out.below⟩
end Go.Proofs.Ytbbokikjpabfkaa
