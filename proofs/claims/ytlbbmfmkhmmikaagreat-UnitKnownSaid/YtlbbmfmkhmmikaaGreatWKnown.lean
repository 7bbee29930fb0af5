/- UnitKnown: the walk. -/
import Derived.Test.YtlbbmfmkhmmikaaGreatWk
namespace Go.Proofs.YtlbbmfmkhmmikaaGreat
open Go.RowKit
def kn1 : ST := (plantST.act 385 2 []).1
theorem kn1_e : plantST.act 385 2 [] = (kn1, [], 14, 64) := by kernel_rfl
theorem kn1_ok : kn1.ok 1 := plant_ok.act _ _ _
def kn2 : ST := (kn1.act 12 2 []).1
theorem kn2_e : kn1.act 12 2 [] = (kn2, [], 14, 64) := by kernel_rfl
theorem kn2_ok : kn2.ok 2 := kn1_ok.act _ _ _
def kn3 : ST := (kn2.act 12 4 []).1
theorem kn3_e : kn2.act 12 4 [] = (kn3, [64], 12, 0) := by kernel_rfl
theorem kn3_ok : kn3.ok 3 := kn2_ok.act _ _ _
def kn4 : ST := (kn3.fail 14 1 1).1
theorem kn4_e : kn3.fail 14 1 1 = (kn4, 0) := by kernel_rfl
theorem kn4_ok : kn4.ok 3 := kn3_ok.fail _ _ _ (by decide) (by decide)
def kn5 : ST := (kn4.act 14 1 []).1
theorem kn5_e : kn4.act 14 1 [] = (kn5, [], 12, 0) := by kernel_rfl
theorem kn5_ok : kn5.ok 4 := kn4_ok.act _ _ _
def kn6 : ST := (kn5.act 14 1 []).1
theorem kn6_e : kn5.act 14 1 [] = (kn6, [], 14, 16) := by kernel_rfl
theorem kn6_ok : kn6.ok 5 := kn5_ok.act _ _ _
def kn7 : ST := (kn6.act 14 1 []).1
theorem kn7_e : kn6.act 14 1 [] = (kn7, [], 12, 0) := by kernel_rfl
theorem kn7_ok : kn7.ok 6 := kn6_ok.act _ _ _
def kn8 : ST := (kn7.fail 14 0 1).1
theorem kn8_e : kn7.fail 14 0 1 = (kn8, 0) := by kernel_rfl
theorem kn8_ok : kn8.ok 6 := kn7_ok.fail _ _ _ (by decide) (by decide)
def kn9 : ST := (kn8.act 14 1 []).1
theorem kn9_e : kn8.act 14 1 [] = (kn9, [], 14, 16) := by kernel_rfl
theorem kn9_ok : kn9.ok 7 := kn8_ok.act _ _ _
def kn10 : ST := (kn9.act 14 4 []).1
theorem kn10_e : kn9.act 14 4 [] = (kn10, [16], 12, 0) := by kernel_rfl
theorem kn10_ok : kn10.ok 8 := kn9_ok.act _ _ _
def kn11 : ST := (kn10.act 14 4 []).1
theorem kn11_e : kn10.act 14 4 [] = (kn11, [16], 12, 0) := by kernel_rfl
theorem kn11_ok : kn11.ok 9 := kn10_ok.act _ _ _
def kn12 : ST := (kn11.act 384 1 [7]).1
theorem kn12_e : kn11.act 384 1 [7] = (kn12, [], 12, 0) := by kernel_rfl
theorem kn12_ok : kn12.ok 10 := kn11_ok.act _ _ _
def kn13 : ST := (kn12.act 400 3 []).1
theorem kn13_e : kn12.act 400 3 [] = (kn13, [], 12, 0) := by kernel_rfl
theorem kn13_ok : kn13.ok 11 := kn12_ok.act _ _ _
def kn14 : ST := (kn13.cut 1).1
theorem kn14_e : kn13.cut 1 = (kn14, 0) := by kernel_rfl
theorem kn14_ok : kn14.ok 11 := kn13_ok.cut _
def kn15 : ST := kn14.up.1
theorem kn15_e : kn14.up = (kn15, 0) := by kernel_rfl
theorem kn15_ok : kn15.ok 11 := kn14_ok.up
theorem kn_f : kn15.find 384 = some 3 := by kernel_rfl
theorem kn_t : kn15.us[3]? = some (mkU cTape (.tape nmA ⟨[⟨[7], false, false⟩], 0, true, 0, none⟩)) := by kernel_rfl
theorem kn_cut : kn15.cut 3 = (kn15, 1) := by kernel_rfl
theorem kn_up : kn15.up = (kn15, 8) := by kernel_rfl
theorem kn_f1 : kn15.fail 385 0 0 = (kn15, 170) := by kernel_rfl
theorem kn_f2 : kn15.fail 384 (-1) 0 = (kn15, 6) := by kernel_rfl
theorem kn_n1 : newST [⟨1024, 1, nm0, 0, 0⟩] = none := by kernel_rfl
theorem kn_n2 : newST [⟨12, 1, nm0, 0, 0⟩, ⟨12, 2, nm0, 0, 0⟩] = none := by kernel_rfl
theorem kn_n3 : newST [⟨1, 4, nmA, 0, 0⟩, ⟨2, 5, nmA, 1, 1⟩] = none := by kernel_rfl
theorem kn_k1 : kindN plantST 384 = 4 := by kernel_rfl
theorem kn_k2 : kindN plantST 385 = 0 := by kernel_rfl
theorem blks_lit1 {w : World} {gb cd : Nat} {Ad : Option Addr} {l : List UInt8} (hc : ∀ o, w.cell? ⟨gb, o, none⟩ = #[Value.bool false, .slice Ad l.length cd, .bool false][o]?) (ha : At w w.heap.size Ad (Lib.byteCells l)) (h1 : l.length ≤ cd) (h2 : cd ≤ maxLen) : T.BlksAt w (some ⟨gb, 0, none⟩) [⟨l, false, false⟩] := by
  intro i b hb
  match i, hb with
  | 0, hb =>
    injection hb with hb; subst hb
    exact ⟨gb, 0, Ad, cd, rfl, hc 0, hc 1, hc 2, ha, h1, h2⟩
  | n + 1, hb => simp at hb
section
variable {W w : World} {F : List SA}
set_option maxRecDepth 100000 in
set_option maxHeartbeats 64000000 in
theorem walkS_unitKnown (S : SL W F w) : Calls Tryz.prog 4 #[] w fun e w' => e = .returned (.bool true) ∧ SL W F w' := by
  have HP := Lib.hid (plant_any S)
  clear S
  go_enter Tryz.func4, Tryz.ntmps4
  go_wp2_with fail
  refine HP.out.mono ?_
  rintro e w1 ⟨x, v, bs, rfl, S1⟩
  have HBL := Lib.hid (set_open S1).1
  have HA0 := Lib.hid (addrs_any (plant_ok.len) S1)
  unfold ptrV
  clear S1 HP
  go_wp2_with fail
  refine HA0.out.mono ?_
  rintro e wa ⟨Aa, ca, rfl, SA0⟩
  have H0 := Lib.hid SA0.s1
  have hl5 : plantST.us.length = 5 := rfl
  obtain ⟨ba, rfl, _, c0⟩ := SA0.cellAt (j := 0) (u := .int .i64 12) rfl
  have c1 := U.rowCell SA0 (j := 1) (u := .int .i64 13) rfl
  have c2 := U.rowCell SA0 (j := 2) (u := .int .i64 14) rfl
  have c3 := U.rowCell SA0 (j := 3) (u := .int .i64 384) rfl
  have c4 := U.rowCell SA0 (j := 4) (u := .int .i64 400) rfl
  rw [hl5]
  clear hl5
  have hk1 := kind_any 384 (plant_ok.len) H0.out
  have hk2 := kind_any 385 (plant_ok.len) H0.out
  rw [kn_k1] at hk1
  rw [kn_k2] at hk2
  have HK := Lib.hid (And.intro hk1 hk2)
  clear SA0 hk1 hk2 HA0
  go_wp2_with (first | ((with_reducible refine HK.out.1.mono ?_); rintro e wk ⟨rfl, rfl⟩) | ((with_reducible refine HK.out.2.mono ?_); rintro e wk ⟨rfl, rfl⟩))
  clear c0 c1 c2 c3 c4 HK
  refine (act_at kn1_e none 0 (l := []) cardB_nil (by decide) plant_ok (by decide) H0.out).mono ?_
  rintro e w1 ⟨A1, c1, rfl, S1⟩
  have G1 := Lib.hid (S1.allocC #[.slice A1 0 c1, .int .i64 14, .int .i64 64] 30).s2
  clear S1 H0
  go_wp2_with fail
  refine (act_at kn2_e none 0 (l := []) cardB_nil (by decide) kn1_ok (by decide) G1.out).mono ?_
  rintro e w2 ⟨A2, c2, rfl, S2⟩
  have G2 := Lib.hid (S2.allocC #[.slice A2 0 c2, .int .i64 14, .int .i64 64] 30).s2
  clear S2 G1
  go_wp2_with fail
  refine (act_at kn3_e none 0 (l := []) cardB_nil (by decide) kn2_ok (by decide) G2.out).mono ?_
  rintro e w3 ⟨A3, c3, rfl, S3⟩
  have G3 := Lib.hid (S3.allocC #[.slice A3 1 c3, .int .i64 12, .int .i64 0] 30).s2
  clear S3 G2
  go_wp2_with fail
  refine (fail_at kn4_e (kn3_ok.len) G3.out).mono ?_
  rintro e w4 ⟨rfl, S4⟩
  have G4 := Lib.hid S4
  clear S4 G3
  go_wp2_with fail
  refine (act_at kn5_e none 0 (l := []) cardB_nil (by decide) kn4_ok (by decide) G4.out).mono ?_
  rintro e w5 ⟨A5, c5, rfl, S5⟩
  have G5 := Lib.hid (S5.allocC #[.slice A5 0 c5, .int .i64 12, .int .i64 0] 30).s2
  clear S5 G4
  go_wp2_with fail
  refine (act_at kn6_e none 0 (l := []) cardB_nil (by decide) kn5_ok (by decide) G5.out).mono ?_
  rintro e w6 ⟨A6, c6, rfl, S6⟩
  have G6 := Lib.hid (S6.allocC #[.slice A6 0 c6, .int .i64 14, .int .i64 16] 30).s2
  clear S6 G5
  go_wp2_with fail
  refine (act_at kn7_e none 0 (l := []) cardB_nil (by decide) kn6_ok (by decide) G6.out).mono ?_
  rintro e w7 ⟨A7, c7, rfl, S7⟩
  have G7 := Lib.hid (S7.allocC #[.slice A7 0 c7, .int .i64 12, .int .i64 0] 30).s2
  clear S7 G6
  go_wp2_with fail
  refine (fail_at kn8_e (kn7_ok.len) G7.out).mono ?_
  rintro e w8 ⟨rfl, S8⟩
  have G8 := Lib.hid S8
  clear S8 G7
  go_wp2_with fail
  refine (act_at kn9_e none 0 (l := []) cardB_nil (by decide) kn8_ok (by decide) G8.out).mono ?_
  rintro e w9 ⟨A9, c9, rfl, S9⟩
  have G9 := Lib.hid (S9.allocC #[.slice A9 0 c9, .int .i64 14, .int .i64 16] 30).s2
  clear S9 G8
  go_wp2_with fail
  refine (act_at kn10_e none 0 (l := []) cardB_nil (by decide) kn9_ok (by decide) G9.out).mono ?_
  rintro e w10 ⟨A10, c10, rfl, S10⟩
  have G10 := Lib.hid (S10.allocC #[.slice A10 1 c10, .int .i64 12, .int .i64 0] 30).s2
  clear S10 G9
  go_wp2_with fail
  refine (act_at kn11_e none 0 (l := []) cardB_nil (by decide) kn10_ok (by decide) G10.out).mono ?_
  rintro e w11 ⟨A11, c11, rfl, S11⟩
  have G11 := Lib.hid (S11.allocC #[.slice A11 1 c11, .int .i64 12, .int .i64 0] 30).s2
  clear S11 G10
  obtain ⟨Lr1, _, _⟩ := (G11.out.drop.drop.drop.drop.drop.drop.drop.drop.drop.drop.drop.drop.drop.drop.drop.drop.drop).look
  obtain ⟨Lr2, _, _⟩ := (G11.out.drop.drop.drop.drop.drop.drop.drop.drop.drop.drop.drop.drop.drop.drop.drop).look
  obtain ⟨Lr3, _, _⟩ := (G11.out.drop.drop.drop.drop.drop.drop.drop.drop.drop.drop.drop.drop.drop).look
  go_wp2_with fail
  have SB11 := G11.out.lit #[.int .u8 64] 5 1 1 rfl (by decide)
  try rw [World.size_alloc] at SB11
  refine (same_below A3 _ [64] c3 1 _ (SB11.drop.drop.drop.drop.drop.drop.drop.drop.drop.drop.drop.drop.drop.drop.drop).at_ SB11.at_ (by decide)).mono ?_
  rintro e wx12 ⟨rfl, bx⟩
  have G12 := Lib.hid (SB11.grow bx).s1
  clear SB11 bx G11 Lr1 Lr2 Lr3
  obtain ⟨Lr5, _, _⟩ := (G12.out.drop.drop.drop.drop.drop.drop.drop.drop.drop.drop.drop.drop).look
  go_wp2_with fail
  refine (fine_yes _ _).mono ?_
  rintro e wx13 ⟨rfl, bx⟩
  have G13 := Lib.hid (G12.out.grow bx)
  clear bx G12 Lr5
  obtain ⟨Lr6, _, _⟩ := (G13.out.drop.drop.drop.drop.drop.drop.drop.drop.drop.drop).look
  obtain ⟨Lr7, _, _⟩ := (G13.out.drop.drop.drop.drop.drop.drop.drop.drop).look
  go_wp2_with fail
  refine (fine_yes _ _).mono ?_
  rintro e wx14 ⟨rfl, bx⟩
  have G14 := Lib.hid (G13.out.grow bx)
  clear bx G13 Lr6 Lr7
  obtain ⟨Lr9, _, _⟩ := (G14.out.drop.drop.drop.drop.drop.drop).look
  obtain ⟨Lr10, _, _⟩ := (G14.out.drop.drop.drop.drop).look
  go_wp2_with fail
  have SB14 := G14.out.lit #[.int .u8 16] 5 1 1 rfl (by decide)
  try rw [World.size_alloc] at SB14
  refine (same_below A10 _ [16] c10 1 _ (SB14.drop.drop.drop.drop.drop.drop).at_ SB14.at_ (by decide)).mono ?_
  rintro e wx15 ⟨rfl, bx⟩
  have G15 := Lib.hid (SB14.grow bx).s1
  clear SB14 bx G14 Lr9 Lr10
  obtain ⟨Lr11, _, _⟩ := (G15.out.drop.drop.drop).look
  go_wp2_with fail
  have SB15 := G15.out.lit #[.int .u8 16] 5 1 1 rfl (by decide)
  try rw [World.size_alloc] at SB15
  refine (same_below A11 _ [16] c11 1 _ (SB15.drop.drop.drop.drop.drop).at_ SB15.at_ (by decide)).mono ?_
  rintro e wx16 ⟨rfl, bx⟩
  have G16 := Lib.hid (SB15.grow bx).s1
  clear SB15 bx G15 Lr11
  go_wp2_with fail
  have G17 := Lib.hid (G16.out.lit #[.int .u8 7] 5 1 1 rfl (by decide)).s1
  refine (act_at kn12_e _ _ (l := [7]) (cardB_head rfl) (by decide) kn11_ok (by decide) G17.out).mono ?_
  rintro e w12 ⟨A12, c12, rfl, S12⟩
  have G18 := Lib.hid S12.drop
  clear S12 G17
  go_wp2_with fail
  refine (act_at kn13_e none 0 (l := []) cardB_nil (by decide) kn12_ok (by decide) G18.out).mono ?_
  rintro e w13 ⟨A13, c13, rfl, S13⟩
  have G19 := Lib.hid S13.drop
  clear S13 G18
  go_wp2_with fail
  refine (cut_at kn14_e kn13_ok G19.out).mono ?_
  rintro e w14 ⟨rfl, S14⟩
  have G20 := Lib.hid S14
  clear S14 G19
  go_wp2_with fail
  refine (up_at kn15_e kn14_ok G20.out).mono ?_
  rintro e w15 ⟨rfl, S15⟩
  have G21 := Lib.hid S15
  clear S15 G20
  obtain ⟨b, db, hp⟩ := bs_get HBL.out (show plantST.us[3]? = some (mkU cTape (.tape nmA (T.freshTP []))) from rfl)
  have hg : getP 4 bs kn15 384 = ptrV db := by rw [getP_some kn_f hp kn_t]; rfl
  have HG := getTape_any 384 (kn15_ok.len) G21.out
  rw [hg] at HG
  have HT := Lib.hid HG
  have HB := Lib.hid hp
  clear hg hp HG
  go_wp2_with fail
  refine HT.out.mono ?_
  rintro e w20 ⟨rfl, rfl⟩
  have HO := Lib.hid (dev_open HB.out kn_t G21.out).2
  have HBN := Lib.hid (dev_open HB.out kn_t G21.out).1
  unfold ptrV
  go_wp2_with fail
  refine (T.blocks_any (s := ⟨[⟨[7], false, false⟩], 0, true, 0, none⟩) HO.out (kn15_ok.us _ (List.mem_of_getElem? kn_t)).dev.2.1.fit).mono ?_
  rintro e w21 ⟨v21, rfl, S21⟩
  obtain ⟨A21, c21, rfl, _, _⟩ := T.blksS_slice S21
  have H21 := Lib.hid S21
  clear S21 HO HT G21
  go_wp2_with fail
  have SL1 := H21.out.lit #[.int .u8 7] 5 1 1 rfl (by decide)
  have SL2 := SL1.allocC #[.bool false, .slice (some ⟨w21.heap.size, 0, none⟩) 1 1, .bool false] 33
  rw [World.size_alloc] at SL2
  have HL2 := Lib.hid SL2
  have hbl := blks_lit1 (l := [7]) SL2.look.1 SL2.drop.at_ (Nat.le_refl _) (by decide)
  have hbr := T.blksS_at SL2.drop.drop
  have HC := Lib.hid (blocks_any A21 _ [⟨[7], false, false⟩] c21 1 _ hbr hbl (by decide))
  clear SL1 SL2 hbl hbr
  refine HC.out.mono ?_
  rintro e w22 ⟨rfl, b22⟩
  have hx : devS db (.tape nmA ⟨[⟨[7], false, false⟩], 0, true, 0, none⟩) = T.tapeS db nmA ⟨[⟨[7], false, false⟩], 0, true, 0, none⟩ := rfl
  have H23 := Lib.hid (dev_same HBN.out HB.out kn_t ((HL2.out.grow b22).drop.drop.drop))
  clear hx b22 HC HL2 H21
  go_wp2_with fail
  have SN1 := H23.out.lit #[.int .i64 1024, .int .i64 1, .string nm0, .int .i64 0, .int .i64 0] 54 5 1 rfl (by decide)
  refine (new_any [⟨1024, 1, nm0, 0, 0⟩] _ 1 (by intro c hc; simp at hc; rcases hc with rfl | rfl <;> decide) (by decide) Rd.head SN1).mono ?_
  rintro e wn1 hn
  unfold NewRes at hn
  rw [kn_n1] at hn
  obtain ⟨rfl, SN⟩ := hn
  have HN1 := Lib.hid SN.drop
  clear SN SN1 H23
  go_wp2_with fail
  have SN2 := HN1.out.lit #[.int .i64 12, .int .i64 1, .string nm0, .int .i64 0, .int .i64 0, .int .i64 12, .int .i64 2, .string nm0, .int .i64 0, .int .i64 0] 54 5 2 rfl (by decide)
  refine (new_any [⟨12, 1, nm0, 0, 0⟩, ⟨12, 2, nm0, 0, 0⟩] _ 2 (by intro c hc; simp at hc; rcases hc with rfl | rfl <;> decide) (by decide) Rd.head SN2).mono ?_
  rintro e wn2 hn
  unfold NewRes at hn
  rw [kn_n2] at hn
  obtain ⟨rfl, SN⟩ := hn
  have HN2 := Lib.hid SN.drop
  clear SN SN2 HN1
  go_wp2_with fail
  have SN3 := HN2.out.lit #[.int .i64 1, .int .i64 4, .string nmA, .int .i64 0, .int .i64 0, .int .i64 2, .int .i64 5, .string nmA, .int .i64 1, .int .i64 1] 54 5 2 rfl (by decide)
  refine (new_any [⟨1, 4, nmA, 0, 0⟩, ⟨2, 5, nmA, 1, 1⟩] _ 2 (by intro c hc; simp at hc; rcases hc with rfl | rfl <;> decide) (by decide) Rd.head SN3).mono ?_
  rintro e wn3 hn
  unfold NewRes at hn
  rw [kn_n3] at hn
  obtain ⟨rfl, SN⟩ := hn
  have HN3 := Lib.hid SN.drop
  clear SN SN3 HN2
  go_wp2_with fail
  refine (cut_at kn_cut kn15_ok HN3.out).mono ?_
  rintro e wz0 ⟨rfl, SZ⟩
  have HZ0 := Lib.hid SZ
  clear SZ HN3
  go_wp2_with fail
  refine (up_at kn_up kn15_ok HZ0.out).mono ?_
  rintro e wz1 ⟨rfl, SZ⟩
  have HZ1 := Lib.hid SZ
  clear SZ HZ0
  go_wp2_with fail
  refine (fail_at kn_f1 (kn15_ok.len) HZ1.out).mono ?_
  rintro e wz2 ⟨rfl, SZ⟩
  have HZ2 := Lib.hid SZ
  clear SZ HZ1
  go_wp2_with fail
  refine (fail_at kn_f2 (kn15_ok.len) HZ2.out).mono ?_
  rintro e wz3 ⟨rfl, SZ⟩
  have HZ3 := Lib.hid SZ
  clear SZ HZ2
  go_wp2_with fail
  refine (works_any HZ3.out).mono ?_
  rintro e wf ⟨rfl, SF⟩
  have HF := Lib.hid SF
  clear SF HZ3
  go_wp2
  go_ret
  exact ⟨rfl, HF.out.drop.drop.drop.drop.drop.drop.drop.drop.drop.drop.drop.drop.drop.drop.drop.drop.drop.drop.drop.drop.drop.drop.drop.drop⟩
end
theorem walk_unitKnown (w : World) : Calls Tryz.prog 4 #[] w fun e w' => e = .returned (.bool true) ∧ Below w.heap.size w w' := (walkS_unitKnown (SL.start w)).mono fun _ _ h => ⟨h.1, h.2.below⟩
end Go.Proofs.YtlbbmfmkhmmikaaGreat
