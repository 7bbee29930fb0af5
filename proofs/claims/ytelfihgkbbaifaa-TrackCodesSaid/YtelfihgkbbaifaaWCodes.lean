/- TrackCodes: the walk. -/
import Derived.Test.YtelfihgkbbaifaaCodes
namespace Go.Proofs.Ytelfihgkbbaifaa
open Go.RowKit
section
variable {W w : World} {F : List SA}
theorem mod16 (z : Int) : ∃ n : Nat, n ≤ 65535 ∧ wrap64 ((IntKind.u64.wrap z).tmod 65536) = (n : Int) := by
  refine ⟨(z % 65536).toNat, by omega, ?_⟩
  have h2 : (IntKind.u64.wrap z).tmod 65536 = z % 65536 := by
    have h3 : IntKind.u64.wrap z = z % 18446744073709551616 := by unfold IntKind.wrap; simp [IntKind.signed, IntKind.bits]
    rw [h3, Int.tmod_eq_emod_of_nonneg (by omega)]
    omega
  rw [h2]
  unfold wrap64
  omega
set_option maxRecDepth 100000 in
set_option maxHeartbeats 32000000 in
theorem walk_trackCodes (W : World) (A : Option Addr) (l : List Rec) (c : Nat) (hl : l.length ≤ c) (hcm : c ≤ maxLen) (hat : RecsAt W A l) (cy : Int) (_wc : (Lit.int .i64 cy).wf = true) (hd : Int) (_wh : (Lit.int .i64 hd).wf = true) (A2 : Option Addr) (b : List UInt8) (c2 : Nat) (hl2 : b.length ≤ c2) (hcm2 : c2 ≤ maxLen) (hat2 : At W W.heap.size A2 (Lib.byteCells b)) (at_ : Int) (wa : (Lit.int .u16 at_).wf = true) (x : UInt8) :
    Calls Try.prog 6 #[.slice A l.length c, .int .i64 cy, .int .i64 hd, .slice A2 b.length c2, .int .u16 at_, .int .u8 (x.toNat : Int)] W fun e W' => e = .returned (.bool true) ∧ Below W.heap.size W W' := by
  have HR := Lib.hid hat
  have HM := Lib.hid (Nat.le_trans hl hcm)
  have HB := Lib.hid (show CardAt W A2 b c2 from ⟨hat2, hl2, hcm2⟩)
  clear hat hl hcm hat2
  have hx := x.toNat_lt
  go_enter Try.func6, Try.ntmps6
  go_wp2_with fail
  refine (track_any A l c (SL.start W) (RecsB.base HR.out _) HM.out).mono ?_
  rintro e w1 ⟨A1, c1, rfl, S1⟩
  have H1 := Lib.hid S1
  clear S1
  obtain ⟨t, ht⟩ : ∃ t, t = trackL l := ⟨_, rfl⟩
  have HTF := Lib.hid (show t.length ≤ 40 ∧ (∀ x ∈ t, x.key.length ≤ 255 ∧ x.data.length ≤ 2016) ∧ validB t = true by rw [ht]; exact ⟨trackL_len l, trackL_size l, trackL_valid l⟩)
  have htl : t.length ≤ 40 := HTF.out.1
  have HTL := Lib.hid ht
  rw [← ht] at H1 ⊢
  clear ht
  go_wp2
  go_loopw [24] (fun i wr => ∃ k : Nat, k ≤ t.length ∧ i = .int .i64 k ∧ SL W (recsS (.slice A1 t.length c1) ((t.take k).map nb ++ t.drop k) :: []) wr) (fun i _ => t.length - (intOf i).toNat)
  case atStart => exact ⟨0, Nat.zero_le _, rfl, by simpa using H1.out⟩
  case round =>
    obtain ⟨k, hk, rfl, S2⟩ := hrel
    have H2 := Lib.hid S2
    clear S2 H1
    by_cases hlt : k < t.length
    · have hy : t[k]? = some t[k] := by simp [hlt]
      obtain ⟨hy1, hy2⟩ := nb_step hy
      generalize t[k] = y at *
      obtain ⟨g, hA, m3, mf, S3⟩ := recs_bad hy1 H2.out
      have H3 := Lib.hid (S3 false)
      rw [show (⟨y.r, y.key, y.data, false⟩ : Rec) = nb y from rfl, hy2] at H3
      subst hA
      clear S3 hy hy1 hy2 H2
      go_wp2
      go_roundw
      case rel => exact ⟨k + 1, by omega, by go_num, H3.out⟩
      case measure => simp [intOf]; omega
    · obtain rfl : k = t.length := by omega
      have hts : (t.take t.length).map nb ++ t.drop t.length = t.map nb := by rw [List.take_of_length_le (Nat.le_refl _), List.drop_of_length_le (Nat.le_refl _), List.append_nil]
      rw [hts] at H2
      have hul : (t.map nb).length = t.length := List.length_map ..
      have HUF := Lib.hid (show Fit (t.map nb) from ⟨by rw [hul]; omega, fun y hy => by
        obtain ⟨z, hz, rfl⟩ := List.mem_map.1 hy
        have := HTF.out.2.1 z hz
        simp only [nb]; omega⟩)
      have HUL := Lib.hid hul
      obtain ⟨cn, hcn, ec⟩ := mod16 cy
      obtain ⟨hn, hhn, eh⟩ := mod16 hd
      have HEN := Lib.hid (enc_nb HTF.out.2.2 hcn hhn)
      have HCD := Lib.hid (fun (cc hh : Int) (wx : World) (S : SL W (recsS (.slice A1 t.length c1) (t.map nb) :: []) wx) => (by
        have h := codes_any A1 (t.map nb) c1 cc hh wx (recsS_at (n := t.length) S) HUF.out
        rw [HUL.out] at h
        exact h : Calls Try.prog 20 #[.int .i64 cc, .int .i64 hh, .slice A1 t.length c1] wx fun e w' => e = .returned (.bool true) ∧ Below wx.heap.size wx w'))
      clear hts hul
      go_wp2_with fail
      refine (HCD.out _ _ _ H2.out).mono ?_
      rintro e w3 ⟨rfl, b3⟩
      have H3 := Lib.hid (H2.out.grow b3)
      clear b3 H2
      go_wp2_with fail
      refine (HCD.out _ _ _ H3.out).mono ?_
      rintro e w4 ⟨rfl, b4⟩
      have H4 := Lib.hid (H3.out.grow b4)
      clear b4 H3
      go_wp2_with fail
      refine (track_any A l c H4.out (RecsB.base HR.out _) HM.out).mono ?_
      rintro e w5 ⟨A5, c5, rfl, S5⟩
      have H5 := Lib.hid S5
      clear S5 H4
      have HFT := Lib.hid (show Fit t from ⟨by omega, fun y hy => by have := HTF.out.2.1 y hy; omega⟩)
      rw [← HTL.out] at H5 ⊢
      go_wp2_with fail
      refine (codes_any A5 t c5 _ _ w5 (recsS_at H5.out) HFT.out).mono ?_
      rintro e w6 ⟨rfl, b6⟩
      have H6 := Lib.hid (H5.out.drop.grow b6)
      clear b6 H5
      go_wp2_with fail
      refine (few_any A l c H6.out (RecsB.base HR.out _) HM.out).mono ?_
      rintro e w7 ⟨A7, c7, rfl, ps, hps, S7, hv7⟩
      have HR7 := Lib.hid (show RecsAt w7 A7 (fewL l) by rw [← hps]; exact recs_at' S7 (fun p hp => (hv7 p hp).grow S7.below))
      have H7 := Lib.hid S7.drop
      clear S7 hps hv7 H6
      have HFF := Lib.hid (Fit.left (fewL_fit l ⟨0, [], [], false⟩ (by simp)))
      go_wp2_with fail
      refine (codes_any A7 (fewL l) c7 _ _ w7 HR7.out HFF.out).mono ?_
      rintro e w8 ⟨rfl, b8⟩
      have H8 := Lib.hid (H7.out.grow b8)
      clear b8 H7 HR7
      have hcE := rencode_any A1 (t.map nb) c1 (cn : Int) (hn : Int) H8.out (recsS_at (n := t.length) H8.out) HUF.out
      rw [HEN.out.1, HEN.out.2, HUL.out] at hcE
      have HCE := Lib.hid hcE
      clear hcE
      obtain ⟨told, htold⟩ : ∃ told, told = encL cn hn (t.map nb) ++ ff8 := ⟨_, rfl⟩
      have HLEN := Lib.hid (show 8 ≤ told.length ∧ told.length ≤ 2056 by
        rw [htold, List.length_append]
        have h1 := encL_len (c := cn) (h := hn) (rs := t.map nb)
        have h2 := (validB_iff.1 HTF.out.2.2).2
        rw [used_nb] at h1
        show 8 ≤ _ + 8 ∧ _ + 8 ≤ 2056
        omega)
      rw [← htold] at HCE
      clear htold
      go_wp2_with fail
      refine HCE.out.mono ?_
      rintro e w9 ⟨A9, c9, rfl, S9⟩
      have H9 := Lib.hid S9
      clear S9 HCE H8
      have htl2 := HLEN.out
      go_wp2_with (at_builtin; refine wpList_appS rfl _ _ _ rfl bElem _ 0 [] rfl (H9.out.lit #[] 5 1 0 rfl (by decide)) _ A9 told.length c9 (Lib.byteCells told) rfl (H9.out.lit #[] 5 1 0 rfl (by decide)).s1.at_ (by rw [byteCells_len, Nat.mul_one]) (byteCells_one _) (by unfold maxLen; omega) (by omega) ?_
                   intro A10 c10 w10 S10
                   rw [Nat.zero_add, List.nil_append] at S10
                   rw [Nat.zero_add]
                   have H10 := Lib.hid S10
                   clear S10 H9
                   obtain ⟨ha0, ha1⟩ := bounds_u16 wa
                   obtain ⟨j, hj⟩ : ∃ j, j = at_.toNat % told.length := ⟨_, rfl⟩
                   have hjl : j < told.length := by rw [hj]; exact Nat.mod_lt _ (by omega)
                   have hjm : at_.tmod (told.length : Int) = (j : Int) := by rw [hj, Int.natCast_emod, Int.toNat_of_nonneg ha0, Int.tmod_eq_emod_of_nonneg ha0]
                   obtain ⟨gb, u, hA10, _, mc, mf, zb, SET⟩ := row_set hjl H10.out
                   have H11 := Lib.hid (SET (.int .u8 (x.toNat : Int)))
                   rw [byteCells_set] at H11
                   subst hA10
                   clear SET H10 hj
                   have h600 : (b.take 600).length = min b.length 600 := by rw [List.length_take, Nat.min_comm]
                   have HB6 := Lib.hid (HB.out.take 600)
                   have HC6 := Lib.hid (show ∀ w', SL W _ w' → Calls Try.prog 22 #[.slice A2 (min b.length 600) c2] w' fun e w'' => e = .returned (.bool true) ∧ Below w'.heap.size w' w'' from fun w' S => by
                     have h := reads_any A2 (b.take 600) c2 w' (HB6.out.grow (SL.below (L := rowS 5 1 (.slice (some ⟨gb, 0, none⟩) told.length c10) told.length (Lib.byteCells (told.set j x)) :: rowS 5 1 (.slice A9 told.length c9) told.length (Lib.byteCells told) :: recsS (.slice A1 t.length c1) (t.map nb) :: []) S)) (by rw [h600]; omega)
                     rw [h600] at h; exact h)
                   clear h600 HB6)
      refine (cut_any A2 b.length c2 600 600 rfl _ hl2 hcm2).mono ?_
      rintro e w12 ⟨rfl, rfl⟩
      generalize (w10.setCell ⟨gb, j, none⟩ (.int .u8 (x.toNat : Int))) = w11 at *
      go_wp2_with fail
      refine (HC6.out _ H11.out).mono ?_
      rintro e w12 ⟨rfl, b12⟩
      have H12 := Lib.hid (H11.out.grow b12)
      clear b12 H11 HC6 mc mf zb
      go_wp2_with fail
      refine (reads_any A9 told c9 w12 (rowS_card H12.out.s1) (by omega)).mono ?_
      rintro e w13 ⟨rfl, b13⟩
      have H13 := Lib.hid (H12.out.grow b13)
      clear b13 H12
      have hbl : (told.set j x).length = told.length := List.length_set
      have HBL := Lib.hid hbl
      have hc9 := (own_cap H13.out.s1.own).1
      go_wp2_with fail
      have hrd := reads_any (some ⟨gb, 0, none⟩) (told.set j x) c10 w13 (by have h := H13.out; rw [← hbl] at h; exact rowS_card h) (by omega)
      rw [hbl] at hrd
      refine hrd.mono ?_
      rintro e w14 ⟨rfl, b14⟩
      have H14 := Lib.hid (H13.out.grow b14)
      clear b14 H13 hrd hbl
      have hjc : (j : Int) ≤ (c9 : Int) := by omega
      have htk : (told.take j).length = j := by rw [List.length_take]; omega
      have HTK := Lib.hid htk
      have HC7 := Lib.hid (show Calls Try.prog 22 #[.slice A9 j c9] w14 fun e w'' => e = .returned (.bool true) ∧ Below w14.heap.size w14 w'' from by
        have h := reads_any A9 (told.take j) c9 w14 ((rowS_card H14.out.s1).take j) (by rw [htk]; omega)
        rw [htk] at h; exact h)
      clear htk
      go_wp2_with fail
      refine HC7.out.mono ?_
      rintro e w15 ⟨rfl, b15⟩
      have H15 := Lib.hid (H14.out.grow b15)
      clear b15 H14 HC7
      have hx8 : (Lib.byteCells (told.set j x)) ++ [Value.int .u8 (x.toNat : Int)] = Lib.byteCells (told.set j x ++ [x]) := by simp [Lib.byteCells]
      have HX8 := Lib.hid hx8
      clear hx8
      go_wp2_with (at_builtin; refine wpList_step ?_; intro K hK; rw [if_pos (by rfl)]
                   refine wp_pushS _ _ _ rfl bElem w15 [.int .u8 (x.toNat : Int)] 1 rfl rfl (by simp [Value.oneCell']) _ told.length _ rfl rfl H15.out (by unfold maxLen; omega) (by omega) ?_
                   intro A16 c16 w16 S16
                   have H16 := Lib.hid S16
                   clear S16 H15
                   refine hK _ _ ?_
                   clear hK K)
      have hS16 := H16.out
      rw [HX8.out] at hS16
      have hl16 : (told.set j x ++ [x]).length = told.length + 1 := by rw [List.length_append, HBL.out]; rfl
      have hrd16 := reads_any A16 (told.set j x ++ [x]) c16 w16 (by rw [← hl16] at hS16; exact rowS_card hS16) (by omega)
      rw [hl16] at hrd16
      have HC8 := Lib.hid hrd16
      clear hrd16 hS16
      refine HC8.out.mono ?_
      rintro e w17 ⟨rfl, b17⟩
      have H17 := Lib.hid (H16.out.grow b17)
      clear b17 H16 HC8
      go_wp2_with fail
      refine (works_any _).mono ?_
      rintro e w18 ⟨rfl, b18⟩
      have H18 := Lib.hid (H17.out.grow b18)
      clear b18 H17
      go_wp2
      go_ret
      exact ⟨rfl, H18.out.below⟩
end
end Go.Proofs.Ytelfihgkbbaifaa
