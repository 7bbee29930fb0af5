/- UnitFaults: the walk. -/
import Derived.Test.YtlbbmfmkhmmikaaGreatFaultL
import Derived.Test.YtlbbmfmkhmmikaaGreatFrame
import Derived.Deep.CutRange
namespace Go.Proofs.YtlbbmfmkhmmikaaGreat
open Go.RowKit
set_option maxRecDepth 100000 in
set_option maxHeartbeats 16000000 in
theorem walk_unitFaults (w : World) (ca ct : UInt8) (n m : Int) (wn : (Lit.int .u8 n).wf = true) (_wm : (Lit.int .u16 m).wf = true) :
    Calls Tryz.prog 5 #[.int .u8 (ca.toNat : Int), .int .u8 (ct.toNat : Int), .agg #[.int .u8 n, .int .u16 m]] w fun e w' => e = .returned (.bool true) ∧ Below w.heap.size w w' := by
  obtain ⟨cn, rfl⟩ := u8_of_wf wn
  clear wn _wm
  have hca := ca.toNat_lt
  have hct := ct.toNat_lt
  have hcn := cn.toNat_lt
  generalize ca.toNat = a at *
  generalize ct.toNat = t at *
  generalize cn.toNat = n at *
  obtain ⟨f, hf, hfl⟩ : ∃ f : Nat, ((a : Int) % 30) = (f : Int) ∧ f < 30 := ⟨a % 30, by omega, by omega⟩
  obtain ⟨tt, htt, htl⟩ : ∃ f : Nat, ((t : Int) % 30) = (f : Int) ∧ f < 30 := ⟨t % 30, by omega, by omega⟩
  obtain ⟨nn, hnn, hnl⟩ : ∃ f : Nat, ((n : Int) % 90) = (f : Int) ∧ f < 90 := ⟨n % 90, by omega, by omega⟩
  have HS := Lib.hid ((SL.start w).allocC #[.int .u8 (n : Int), .int .u16 m] 58)
  obtain ⟨L, K, z⟩ := HS.out.look
  go_enter Tryz.func5, Tryz.ntmps5
  go_wp2_with fail
  refine (plant_any HS.out).mono ?_
  rintro e w1 ⟨x, v, bs, rfl, S1⟩
  have H1 := Lib.hid S1
  clear S1 HS L K z
  generalize w.heap.size = xb at *
  unfold ptrV
  go_wp2_with fail
  refine (works_any H1.out).mono ?_
  rintro e w2 ⟨rfl, S2⟩
  have H2 := Lib.hid S2
  clear S2 H1
  go_wp2_with fail
  refine (fail_at (s2 := fG [] f tt false none) (r := 0) (by rw [show ((f : Int) + tt - f) = (tt : Int) by omega]; exact fG_fail f tt) (by decide) H2.out).mono ?_
  rintro e w3 ⟨rfl, S3⟩
  have H3 := Lib.hid S3
  have hok0 : (fG [] f tt false none).ok 0 := by
    have h := plant_ok.fail 13 f tt (by omega) (by omega)
    rw [fG_fail] at h
    exact h
  clear S3 H2
  go_wp2_with fail
  go_loopw [10, 11] (fun p i wr => ∃ (k : Nat) (cs : List (List UInt8)) (e : Bool) (la : Option Nat) (mm : Nat), k ≤ nn ∧ p = .int .i64 (cs.length : Int) ∧ i = .int .i64 k ∧ cs.length ≤ k ∧ (la = none ∨ la = some 1) ∧
    (fG cs (f - k) (tt - (k - f)) e la).ok mm ∧ mm ≤ 3 * k ∧ SL w [setO x v bs (fG cs (f - k) (tt - (k - f)) e la), cel xb #[.int .u8 (n : Int), .int .u16 m] 58] wr) (fun _ i _ => nn - (intOf i).toNat)
  case atStart => exact ⟨0, [], false, none, 0, Nat.zero_le _, rfl, rfl, Nat.le_refl _, Or.inl rfl, by simpa using hok0, Nat.le_refl _, by simpa using H3.out⟩
  case round =>
    obtain ⟨k, cs, e, la, mm, hk, rfl, rfl, hcs, hla, hok, hmm, S4⟩ := hrel
    have H4 := Lib.hid S4
    have HK := Lib.hid (And.intro hla hok)
    obtain ⟨L, K, z⟩ := S4.s1.look
    clear hla hok S4 H3 hok0
    by_cases hlt : k < nn
    · go_upto_region 12 with fail
      go_cut [58] from 37 to 106 (fun s58 wx => s58 = .bool false ∧ ∃ (la : Option Nat) (mm : Nat), (la = none ∨ la = some 1) ∧ (fG cs (f - k) (tt - (k - f)) e la).ok mm ∧ mm ≤ 3 * k + 1 ∧ SL w [setO x v bs (fG cs (f - k) (tt - (k - f)) e la), cel xb #[.int .u8 (n : Int), .int .u16 m] 58] wx)
      case first =>
        have L1 : wr.cell? ⟨xb, 1, none⟩ = some (.int .u16 m) := L 1
        go_wp2_with fail
        · refine (act_at (fG_noop HK.out.1) none 0 (l := []) cardB_nil (by decide) HK.out.2 (by omega) H4.out).mono ?_
          rintro e wa ⟨Aa, cc, rfl, Sa⟩
          have H5 := Lib.hid Sa.drop
          clear Sa
          go_wp2_with fail
          refine (fine_yes _ _).mono ?_
          rintro e wb ⟨rfl, bb⟩
          have H6 := Lib.hid (H5.out.grow bb)
          clear bb
          go_wp2_with fail
          go_meet
          case rel =>
            have h := HK.out.2.act 13 3 []
            rw [fG_noop HK.out.1] at h
            exact ⟨rfl, some 1, mm + 1, Or.inr rfl, h, by omega, H6.out⟩
        · go_meet
          case rel => exact ⟨rfl, la, mm, HK.out.1, HK.out.2, by omega, H4.out⟩
      case rest =>
        obtain ⟨rfl, la, mm, hla, hok, hmm, S5⟩ := hcut
        obtain ⟨b, hb⟩ : ∃ b : UInt8, (b.toNat : Int) = k := ⟨UInt8.ofNat k, by simp; omega⟩
        have e5 : [Value.int .u8 (k : Int)] = Lib.byteCells [b] := by rw [← hb]; rfl
        have S6 := (S5.lit #[.int .u8 (k : Int)] 5 1 1 rfl (by decide)).s1
        generalize hwz : wc.alloc (.cells #[.int .u8 (k : Int)] 5) = wz at S6
        rw [e5] at S6
        subst hwz
        have H5 := Lib.hid S6
        have HL := Lib.hid (And.intro hla hok)
        clear hla hok S5 S6 H4 HK L K z hb e5
        have hc4 : cs.length < 4096 := by omega
        go_wp2_with fail
        by_cases hA : k < f
        · have hce : (fG cs (f - k) (tt - (k - f)) e la).act 13 1 [b] = (fG (cs ++ [fcard b]) (f - (k + 1)) (tt - (k + 1 - f)) false (some 1), [], 12, 0) := by
            rw [fG_card1 HL.out.1 hc4 (by omega) b, show f - k - 1 = f - (k + 1) by omega, show tt - (k - f) = tt - (k + 1 - f) by omega]
          have hse : (fG (cs ++ [fcard b]) (f - (k + 1)) (tt - (k + 1 - f)) false (some 1)).act 13 4 [] = (fG (cs ++ [fcard b]) (f - (k + 1)) (tt - (k + 1 - f)) false (some 1), [0], 12, 0) := fG_sense0 (Or.inr rfl)
          have t1 : ¬ ((f : Int) ≤ k) := by omega
          have HCE := Lib.hid (act_at hce (some ⟨wc.heap.size, 0, none⟩) 1 (l := [b]) (cardB_head rfl) (by simp) HL.out.2 (by omega) H5.out)
          have hok2 := HL.out.2.act 13 1 [b]
          rw [hce] at hok2
          have hok3 := ST.ok.act hok2 13 4 []
          rw [hse] at hok3
          have HO := Lib.hid (And.intro hok2 hok3)
          clear hok2 hok3
          refine HCE.out.mono ?_
          rintro e w5 ⟨A5, c5, rfl, S5⟩
          have H6 := Lib.hid ((S5.drop).allocC #[.slice A5 0 c5, .int .i64 12, .int .i64 0] 30)
          clear S5 H5 HCE HL
          obtain ⟨L6, K6, z6⟩ := H6.out.look
          go_wp2_with fail
          refine (fine_any _ _ _ _).mono ?_
          rintro e w6 ⟨rfl, b6⟩
          have H7 := Lib.hid (H6.out.grow b6)
          clear b6 H6 L6 K6 z6
          go_wp2_with fail
          refine (act_at hse none 0 (l := []) cardB_nil (by decide) HO.out.1 (by omega) H7.out.s1).mono ?_
          rintro e w7 ⟨A7, c7, rfl, S7⟩
          have H8 := Lib.hid (S7.allocC #[.slice A7 1 c7, .int .i64 12, .int .i64 0] 30)
          clear S7 H7
          obtain ⟨L8, K8, z8⟩ := H8.out.look
          go_wp2_with fail
          refine (fine_yes _ _).mono ?_
          rintro e w8 ⟨rfl, b8⟩
          have H9 := Lib.hid (H8.out.grow b8)
          clear b8 H8 L8 K8 z8
          obtain ⟨L9, K9, z9⟩ := H9.out.look
          obtain ⟨g9, rfl, _, c9⟩ := H9.out.drop.cellAt (j := 0) (u := .int .u8 0) rfl
          go_wp2_with fail
          go_roundw
          case rel => exact ⟨k + 1, cs ++ [fcard b], false, some 1, mm + 2, by omega, by first | rfl | simp, by go_num, by first | omega | (simp; omega), Or.inr rfl, HO.out.2, by omega, H9.out.drop.drop.s1.drop.s1.drop⟩
          case measure => simp [intOf]; omega
        by_cases hB : k < f + tt
        · have hce : (fG cs (f - k) (tt - (k - f)) e la).act 13 1 [b] = (fG cs (f - (k + 1)) (tt - (k + 1 - f)) true (some 1), [], 14, 16) := by
            rw [show f - k = 0 by omega, fG_card2 HL.out.1 (by omega) b, show tt - (k - f) - 1 = tt - (k + 1 - f) by omega, show f - (k + 1) = 0 by omega]
          have hse : (fG cs (f - (k + 1)) (tt - (k + 1 - f)) true (some 1)).act 13 4 [] = (fG cs (f - (k + 1)) (tt - (k + 1 - f)) true (some 1), [16], 12, 0) := fG_sense1
          have t1 : (f : Int) ≤ k := by omega
          have t2 : (k : Int) < f + tt := by omega
          have HCE := Lib.hid (act_at hce (some ⟨wc.heap.size, 0, none⟩) 1 (l := [b]) (cardB_head rfl) (by simp) HL.out.2 (by omega) H5.out)
          have hok2 := HL.out.2.act 13 1 [b]
          rw [hce] at hok2
          have hok3 := ST.ok.act hok2 13 4 []
          rw [hse] at hok3
          have HO := Lib.hid (And.intro hok2 hok3)
          clear hok2 hok3
          refine HCE.out.mono ?_
          rintro e w5 ⟨A5, c5, rfl, S5⟩
          have H6 := Lib.hid ((S5.drop).allocC #[.slice A5 0 c5, .int .i64 14, .int .i64 16] 30)
          clear S5 H5 HCE HL
          obtain ⟨L6, K6, z6⟩ := H6.out.look
          go_wp2_with fail
          refine (fine_any _ _ _ _).mono ?_
          rintro e w6 ⟨rfl, b6⟩
          have H7 := Lib.hid (H6.out.grow b6)
          clear b6 H6 L6 K6 z6
          go_wp2_with fail
          refine (act_at hse none 0 (l := []) cardB_nil (by decide) HO.out.1 (by omega) H7.out.s1).mono ?_
          rintro e w7 ⟨A7, c7, rfl, S7⟩
          have H8 := Lib.hid (S7.allocC #[.slice A7 1 c7, .int .i64 12, .int .i64 0] 30)
          clear S7 H7
          obtain ⟨L8, K8, z8⟩ := H8.out.look
          go_wp2_with fail
          refine (fine_yes _ _).mono ?_
          rintro e w8 ⟨rfl, b8⟩
          have H9 := Lib.hid (H8.out.grow b8)
          clear b8 H8 L8 K8 z8
          obtain ⟨L9, K9, z9⟩ := H9.out.look
          obtain ⟨g9, rfl, _, c9⟩ := H9.out.drop.cellAt (j := 0) (u := .int .u8 16) rfl
          go_wp2_with fail
          go_roundw
          case rel => exact ⟨k + 1, cs, true, some 1, mm + 2, by omega, by first | rfl | simp, by go_num, by first | omega | (simp; omega), Or.inr rfl, HO.out.2, by omega, H9.out.drop.drop.s1.drop.s1.drop⟩
          case measure => simp [intOf]; omega
        · have hce : (fG cs (f - k) (tt - (k - f)) e la).act 13 1 [b] = (fG (cs ++ [fcard b]) (f - (k + 1)) (tt - (k + 1 - f)) false (some 1), [], 12, 0) := by
            rw [show f - k = 0 by omega, show tt - (k - f) = 0 by omega, fG_card3 HL.out.1 hc4 b, show f - (k + 1) = 0 by omega, show tt - (k + 1 - f) = 0 by omega]
          have hse : (fG (cs ++ [fcard b]) (f - (k + 1)) (tt - (k + 1 - f)) false (some 1)).act 13 4 [] = (fG (cs ++ [fcard b]) (f - (k + 1)) (tt - (k + 1 - f)) false (some 1), [0], 12, 0) := fG_sense0 (Or.inr rfl)
          have t1 : (f : Int) ≤ k := by omega
          have t2 : decide ((k : Int) < f + tt) = false := decide_eq_false (by omega)
          have HCE := Lib.hid (act_at hce (some ⟨wc.heap.size, 0, none⟩) 1 (l := [b]) (cardB_head rfl) (by simp) HL.out.2 (by omega) H5.out)
          have hok2 := HL.out.2.act 13 1 [b]
          rw [hce] at hok2
          have hok3 := ST.ok.act hok2 13 4 []
          rw [hse] at hok3
          have HO := Lib.hid (And.intro hok2 hok3)
          clear hok2 hok3
          refine HCE.out.mono ?_
          rintro e w5 ⟨A5, c5, rfl, S5⟩
          have H6 := Lib.hid ((S5.drop).allocC #[.slice A5 0 c5, .int .i64 12, .int .i64 0] 30)
          clear S5 H5 HCE HL
          obtain ⟨L6, K6, z6⟩ := H6.out.look
          go_wp2_with fail
          refine (fine_any _ _ _ _).mono ?_
          rintro e w6 ⟨rfl, b6⟩
          have H7 := Lib.hid (H6.out.grow b6)
          clear b6 H6 L6 K6 z6
          go_wp2_with fail
          refine (act_at hse none 0 (l := []) cardB_nil (by decide) HO.out.1 (by omega) H7.out.s1).mono ?_
          rintro e w7 ⟨A7, c7, rfl, S7⟩
          have H8 := Lib.hid (S7.allocC #[.slice A7 1 c7, .int .i64 12, .int .i64 0] 30)
          clear S7 H7
          obtain ⟨L8, K8, z8⟩ := H8.out.look
          go_wp2_with fail
          refine (fine_yes _ _).mono ?_
          rintro e w8 ⟨rfl, b8⟩
          have H9 := Lib.hid (H8.out.grow b8)
          clear b8 H8 L8 K8 z8
          obtain ⟨L9, K9, z9⟩ := H9.out.look
          obtain ⟨g9, rfl, _, c9⟩ := H9.out.drop.cellAt (j := 0) (u := .int .u8 0) rfl
          go_wp2_with fail
          go_roundw
          case rel => exact ⟨k + 1, cs ++ [fcard b], false, some 1, mm + 2, by omega, by first | rfl | simp, by go_num, by first | omega | (simp; omega), Or.inr rfl, HO.out.2, by omega, H9.out.drop.drop.s1.drop.s1.drop⟩
          case measure => simp [intOf]; omega
    · obtain rfl : k = nn := by omega
      have hu : (fG cs (f - k) (tt - (k - f)) e la).us[1]? = some ⟨cPunch, .punch 0 cs, f - k, tt - (k - f), e⟩ := rfl
      have hb := (set_open H4.out).1
      obtain ⟨pb, db, hp⟩ := bs_get hb hu
      have hg : getP 2 bs (fG cs (f - k) (tt - (k - f)) e la) 13 = ptrV db := by rw [getP_some (fG_find cs (f - k) (tt - (k - f)) e la) hp hu]; rfl
      have HG := getPunch_any 13 HK.out.2.len H4.out
      rw [hg] at HG
      have HT := Lib.hid HG
      have HB := Lib.hid (And.intro hb hp)
      have HU := Lib.hid hu
      clear hb hp hg HG hu
      go_wp2_with fail
      refine HT.out.mono ?_
      rintro e w5 ⟨rfl, rfl⟩
      have H5 := Lib.hid (dev_open HB.out.2 HU.out H4.out).2
      have hd : Dev.ok mm (.punch 0 cs) := (HK.out.2.us _ (List.mem_of_getElem? HU.out)).dev
      have HD := Lib.hid hd
      clear hd H4 L K z
      unfold ptrV
      go_wp2_with fail
      refine (U.pundeck_any db 0 cs H5.out HD.out.2.1 (fun c hc => by rw [HD.out.2.2 c hc]; omega)).mono ?_
      rintro e w6 ⟨A6, c6, rfl, S6⟩
      have H6 := Lib.hid (dev_same HB.out.1 HB.out.2 HU.out S6.drop)
      clear S6 H5
      go_wp2_with fail
      refine (fail_at (fG_fail1 (cs := cs)) (by exact Nat.le_of_ble_eq_true rfl) H6.out).mono ?_
      rintro e w7 ⟨rfl, S7⟩
      have H7 := Lib.hid S7
      clear S7 H6
      go_wp2_with fail
      refine (fail_at (fG_fail2 (cs := cs)) (by exact Nat.le_of_ble_eq_true rfl) H7.out).mono ?_
      rintro e w8 ⟨rfl, S8⟩
      have H8 := Lib.hid S8
      clear S8 H7
      go_wp2
      go_ret
      exact ⟨rfl, H8.out.below⟩
end Go.Proofs.YtlbbmfmkhmmikaaGreat
