/- The walk of TapePlays. -/
import Derived.Test.YtbbokikjpabfkaaQCall
import Derived.Test.YtbbokikjpabfkaaWNew
namespace Go.Proofs.Ytbbokikjpabfkaa
open Go.RowKit

section
variable {W w : World} {F : List SA} {tb qb : Nat} {s : TP}
theorem volNew_ok (A : Option Addr) (bs : List Blk) (c : Nat) (he : newErr nmV bs = 0) (S : SL W F w) (hr : BlksRd W F A bs) (hb : bs.length ≤ maxLen) (hd : ∀ b ∈ bs, b.data.length ≤ 1073741824) :
    Calls Try.prog 10 #[.string ⟨#[86, 79, 76, 48, 48, 49]⟩, .slice A bs.length c] w fun e w' => ∃ tb, e = .returned (.tuple #[.pointer (some ⟨tb, 0, none⟩), .int .i64 0]) ∧ SL W (tapeS tb nmV (freshTP bs) :: F) w' := new_ok nmV A bs c he S hr (by decide) hb hd
theorem volNew_bad (A : Option Addr) (bs : List Blk) (c : Nat) (he : newErr nmV bs ≠ 0) (S : SL W F w) (hr : BlksRd W F A bs) (hb : bs.length ≤ maxLen) (hd : ∀ b ∈ bs, b.data.length ≤ 1073741824) :
    Calls Try.prog 10 #[.string ⟨#[86, 79, 76, 48, 48, 49]⟩, .slice A bs.length c] w fun e w' => e = .returned (.tuple #[.pointer none, .int .i64 (newErr nmV bs : Int)]) ∧ SL W F w' := new_bad nmV A bs c he S hr (by decide) hb hd
theorem volQ_ok (A : Option Addr) (bs : List Blk) (c : Nat) (he : newErr nmV bs = 0) (S : SL W F w) (hr : BlksRd W F A bs) (hb : bs.length ≤ maxLen) (hd : ∀ b ∈ bs, b.data.length ≤ 1073741824) :
    Calls Try.prog 22 #[.string ⟨#[86, 79, 76, 48, 48, 49]⟩, .slice A bs.length c] w fun e w' => ∃ qb, e = .returned (.tuple #[.pointer (some ⟨qb, 0, none⟩), .int .i64 0]) ∧ SL W (qS qb nmV (freshTP bs) :: F) w' := qnew_ok nmV A bs c he S hr (by decide) hb hd
theorem volQ_bad (A : Option Addr) (bs : List Blk) (c : Nat) (he : newErr nmV bs ≠ 0) (S : SL W F w) (hr : BlksRd W F A bs) (hb : bs.length ≤ maxLen) (hd : ∀ b ∈ bs, b.data.length ≤ 1073741824) :
    Calls Try.prog 22 #[.string ⟨#[86, 79, 76, 48, 48, 49]⟩, .slice A bs.length c] w fun e w' => e = .returned (.tuple #[.pointer none, .int .i64 (newErr nmV bs : Int)]) ∧ SL W F w' := qnew_bad nmV A bs c he S hr (by decide) hb hd
theorem call_at (kind op : Int) (A : Option Addr) (l : List UInt8) (c : Nat) (how : Int) (S : SL W (tapeS tb nmV s :: qS qb nmV s :: F) w) (ok : s.ok) (tip : s.tip) (ha : Rd W F A (Lib.byteCells l)) (hz : l.length ≤ 1100) :
    Calls Try.prog 24 #[.pointer (some ⟨tb, 0, none⟩), .pointer (some ⟨qb, 0, none⟩), .agg #[.int .i64 kind, .int .i64 op, .slice A l.length c, .int .i64 how]] w fun e w' => e = .returned (.bool true) ∧ ∃ s' : TP, s'.ok ∧ s'.tip ∧ SL W (tapeS tb nmV s' :: qS qb nmV s' :: F) w' :=
  call_any ⟨kind, op, (A, l, c), how⟩ (by kernel_rfl) S ok tip ha hz
end
set_option maxRecDepth 100000 in
set_option maxHeartbeats 16000000 in
theorem walk_tapePlays (W : World) (a0 : Option Addr) (bs : List Blk) (c0 : Nat) (hl0 : bs.length ≤ c0) (hcm0 : c0 ≤ maxLen) (hat0 : BlksAt W a0 bs) (a1 : Option Addr) (l : List ActV) (c1 : Nat) (hl1 : l.length ≤ c1) (hcm1 : c1 ≤ maxLen) (hat1 : At W W.heap.size a1 (l.flatMap actCells)) (hgood : ∀ a ∈ l, ActV.good W W.heap.size a) :
    Calls Try.prog 8 #[.slice a0 bs.length c0, .slice a1 l.length c1] W fun e w' => e = .returned (.bool true) ∧ Below W.heap.size W w' := by
  have hd : ∀ a ∈ l, a.data.2.1.length ≤ maxLen := fun a ha => Nat.le_trans (hgood a ha).1.2.1 (hgood a ha).1.2.2
  have HB0 : Hid (∀ F, BlksRd W F a0 bs) := Lib.hid (fun F => BlksRd.base hat0)
  have HA1 : Hid (∀ F, Rd W F a1 (l.flatMap actCells)) := Lib.hid (fun F => Rd.base hat1)
  have HG := Lib.hid hgood
  have HW := Lib.hid works_any
  have hb0 : bs.length ≤ maxLen := by omega
  have hb1 : l.length ≤ maxLen := by omega
  have hz0 : bs.length ≤ 9223372036854775807 := by unfold maxLen at hb0; omega
  have hz1 : l.length ≤ 9223372036854775807 := by unfold maxLen at hb1; omega
  have HX := Lib.hid (And.intro hb0 (And.intro hb1 hd))
  clear hat0 hat1 hgood hl0 hcm0 hl1 hcm1 hb0 hb1 hd
  by_cases h1 : bs.length ≤ 100 ∧ ∀ b ∈ bs, b.data.length ≤ 1100
  · by_cases h2 : l.length ≤ 100 ∧ ∀ a ∈ l, a.data.2.1.length ≤ 1100
    · have HBN := Lib.hid (big_no a0 bs c0 (SL.start W) (HB0.out _) HX.out.1 h1)
      have HMN := Lib.hid (fun (w2 : World) (S2 : SL W [] w2) => many_no a1 l c1 S2 (HA1.out _) HX.out.2.1 HX.out.2.2 h2)
      have H12 := Lib.hid (And.intro h1 h2)
      have hb3 : bs.length ≤ 100 := h1.1
      have hl3 : l.length ≤ 100 := h2.1
      clear h1 h2
      have hfit : Fit bs := ⟨by omega, fun b hb => by have := H12.out.1.2 b hb; omega⟩
      have HFD : Hid (∀ b ∈ bs, b.data.length ≤ 1073741824) := Lib.hid hfit.2
      have HCP := Lib.hid (fun (w2 : World) (S2 : SL W [] w2) => rcopy_any a0 bs c0 S2 (HB0.out _) hfit)
      have hee : ((newErr nmV bs : Int) != (newErr nmV bs : Int)) = false := by simp
      clear hfit
      by_cases hne : newErr nmV bs = 0
      · go_enter Try.func8, Try.ntmps8
        go_wp2_with (first
          | ((with_reducible refine (volQ_ok a0 bs c0 hne H5.out (HB0.out _) HX.out.1 HFD.out).mono ?_); rintro e w6 ⟨qb, rfl, S6⟩; have H6 := Lib.hid S6.b2; clear S6 H5)
          | ((with_reducible refine (volNew_ok A4 bs c4 hne H4.out BlksRd.head HX.out.1 HFD.out).mono ?_); rintro e w5 ⟨tb, rfl, S5⟩; have H5 := Lib.hid S5; clear S5 H4)
          | ((with_reducible refine (HCP.out _ H3.out).mono ?_); rintro e w4 ⟨v4, rfl, S4⟩; obtain ⟨A4, c4, rfl, _, _⟩ := blksS_slice S4; have H4 := Lib.hid S4; clear S4)
          | ((with_reducible refine (HMN.out _ H2.out).mono ?_); rintro e w3 ⟨rfl, S3⟩; have H3 := Lib.hid S3; clear S3)
          | ((with_reducible refine HBN.out.mono ?_); rintro e w2 ⟨rfl, S2⟩; have H2 := Lib.hid S2; clear S2))
        have HOK := Lib.hid (newErr_ok hne)
        have HS : Hid (SL W [tapeS tb nmV (freshTP bs), qS qb nmV (freshTP bs)] w6) := Lib.hid (by
          exact H6.out.s1.drop)
        clear HBN HCP HMN hne H6
        go_loopw [9] (fun i wr => ∃ (k : Nat) (s : TP), k ≤ l.length ∧ i = .int .i64 (k : Int) ∧ s.ok ∧ s.tip ∧ SL W [tapeS tb nmV s, qS qb nmV s] wr) (fun i _ => l.length - (intOf i).toNat)
        case atStart => exact ⟨0, _, Nat.zero_le _, rfl, HOK.out, (fun a o e => by cases e), HS.out⟩
        case round =>
          obtain ⟨k, s, hk, rfl, hok, htip, S1⟩ := hrel
          have HO := Lib.hid (And.intro hok htip)
          have H7 := Lib.hid S1
          clear hok htip S1 HS HOK
          by_cases hlt : k < l.length
          · obtain ⟨a, ha⟩ : ∃ a, l[k]? = some a := ⟨l[k]'(by omega), List.getElem?_eq_getElem (by omega)⟩
            obtain ⟨g, off, rfl, hg, g0, g1, g2, g3⟩ := act_cells (HA1.out _) H7.out ha
            have HGA := Lib.hid (HG.out a (List.mem_of_getElem? ha))
            have hd5 : a.data.2.1.length ≤ 1100 := H12.out.2.2 _ (List.mem_of_getElem? ha)
            obtain ⟨kd, op, ⟨A5, d5, c5⟩, how⟩ := a
            dsimp only [cardV] at g0 g1 g2 g3 hd5
            have HRD : Hid (Rd W [] A5 (Lib.byteCells d5)) := Lib.hid (Rd.base HGA.out.1.1)
            clear ha
            go_wp2_with (first
              | ((with_reducible refine (like_any HS2.out HK2.out.1).mono ?_); rintro e w8 ⟨rfl, S8⟩; have HS3 := Lib.hid S8; clear S8 HS2)
              | ((with_reducible refine (call_at kd op A5 d5 c5 how H7.out HO.out.1 HO.out.2 HRD.out hd5).mono ?_); rintro e w7 ⟨rfl, s2, ok2, tip2, S7⟩; have HS2 := Lib.hid S7; have HK2 := Lib.hid (And.intro ok2 tip2); clear S7 ok2 tip2))
            go_roundw
            case rel => exact ⟨k + 1, s2, by omega, by go_num, HK2.out.1, HK2.out.2, HS3.out⟩
            case measure => simp [intOf]; omega
          · obtain rfl : k = l.length := by omega
            go_wp2_with ((with_reducible refine (HW.out _).mono ?_); rintro e w9 ⟨rfl, b9⟩; have H9 := Lib.hid (H7.out.grow b9))
            go_ret
            exact ⟨rfl, H9.out.below⟩
      · go_enter Try.func8, Try.ntmps8
        go_wp2_with (first
          | ((with_reducible refine (HW.out _).mono ?_); rintro e w9 ⟨rfl, b9⟩; have H9 := Lib.hid (H6.out.grow b9))
          | ((with_reducible refine (volQ_bad a0 bs c0 hne H5.out (HB0.out _) HX.out.1 HFD.out).mono ?_); rintro e w6 ⟨rfl, S6⟩; have H6 := Lib.hid S6; clear S6 H5)
          | ((with_reducible refine (volNew_bad A4 bs c4 hne H4.out BlksRd.head HX.out.1 HFD.out).mono ?_); rintro e w5 ⟨rfl, S5⟩; have H5 := Lib.hid S5; clear S5 H4)
          | ((with_reducible refine (HCP.out _ H3.out).mono ?_); rintro e w4 ⟨v4, rfl, S4⟩; obtain ⟨A4, c4, rfl, _, _⟩ := blksS_slice S4; have H4 := Lib.hid S4; clear S4)
          | ((with_reducible refine (HMN.out _ H2.out).mono ?_); rintro e w3 ⟨rfl, S3⟩; have H3 := Lib.hid S3; clear S3)
          | ((with_reducible refine HBN.out.mono ?_); rintro e w2 ⟨rfl, S2⟩; have H2 := Lib.hid S2; clear S2))
        go_ret
        exact ⟨rfl, H9.out.below⟩
    · have HBN := Lib.hid (big_no a0 bs c0 (SL.start W) (HB0.out _) HX.out.1 h1)
      have HMN := Lib.hid (fun (w2 : World) (S2 : SL W [] w2) => many_yes a1 l c1 S2 (HA1.out _) HX.out.2.1 HX.out.2.2 h2)
      clear h1 h2
      go_enter Try.func8, Try.ntmps8
      go_wp2_with (first
        | ((with_reducible refine (HMN.out _ H2.out).mono ?_); rintro e w3 ⟨rfl, S3⟩; have H3 := Lib.hid S3; clear S3)
        | ((with_reducible refine HBN.out.mono ?_); rintro e w2 ⟨rfl, S2⟩; have H2 := Lib.hid S2; clear S2))
      go_ret
      exact ⟨rfl, H3.out.below⟩
  · have HBN := Lib.hid (big_yes a0 bs c0 (SL.start W) (HB0.out _) HX.out.1 h1)
    clear h1
    go_enter Try.func8, Try.ntmps8
    go_wp2_with ((with_reducible refine HBN.out.mono ?_); rintro e w2 ⟨rfl, S2⟩; have H2 := Lib.hid S2; clear S2)
    go_ret
    exact ⟨rfl, H2.out.below⟩
end Go.Proofs.Ytbbokikjpabfkaa
