/- DiskKnown: the walk. -/
import Derived.Test.YtmkndbledppniaaWorks16
import Derived.Test.YtmkndbledppniaaUndo2
namespace Go.Proofs.Ytmkndbledppniaa
open Go.RowKit
def kn0 : DK := freshDK ⟨#[86, 79, 76, 49]⟩ 2 2
def kn1 : DK := (dkDo kn0 7 [0, 0, 0, 1, 0, 0]).1
def kn2 : DK := (dkDo kn1 29 [0, 1, 0, 0, 1, 1, 0, 2, 75, 68, 69]).1
def kn3 : DK := (dkDo kn2 5 [153]).1
def kn4 : DK := (dkDo kn3 41 [75]).1
def kn5 : DK := (dkDo kn4 5 [153]).1
def kn6 : DK := (dkUndo kn5 2).1
def kn7 : DK := (dkDo kn6 49 [0, 1, 0, 0, 1]).1
def kn8 : DK := (dkDo kn7 6 []).1
def kn9 : DK := (dkDo kn8 7 [0, 0, 0, 2, 0, 0]).1
def kn10 : DK := (dkDo kn9 4 []).1
theorem kn0_ok : kn0.ok := fresh_ok (by omega) (by omega)
theorem kn1_ok : kn1.ok := do_ok kn0_ok
theorem kn1_eq : dkDo kn0 7 [0, 0, 0, 1, 0, 0] = (kn1, [], 12, 0) := by kernel_rfl
theorem kn2_ok : kn2.ok := do_ok kn1_ok
theorem kn2_eq : dkDo kn1 29 [0, 1, 0, 0, 1, 1, 0, 2, 75, 68, 69] = (kn2, [], 12, 0) := by kernel_rfl
theorem kn3_ok : kn3.ok := do_ok kn2_ok
theorem kn3_eq : dkDo kn2 5 [153] = (kn3, [], 14, 128) := by kernel_rfl
theorem kn4_ok : kn4.ok := do_ok kn3_ok
theorem kn4_eq : dkDo kn3 41 [75] = (kn4, [], 76, 0) := by kernel_rfl
theorem kn5_ok : kn5.ok := do_ok kn4_ok
theorem kn5_eq : dkDo kn4 5 [153] = (kn5, [], 12, 0) := by kernel_rfl
theorem kn6_ok : kn6.ok := undo_ok kn5_ok
theorem kn6_eq : dkUndo kn5 2 = (kn6, true) := by kernel_rfl
theorem kn7_ok : kn7.ok := do_ok kn6_ok
theorem kn7_eq : dkDo kn6 49 [0, 1, 0, 0, 1] = (kn7, [], 76, 0) := by kernel_rfl
theorem kn8_ok : kn8.ok := do_ok kn7_ok
theorem kn8_eq : dkDo kn7 6 [] = (kn8, [], 14, 8) := by kernel_rfl
theorem kn9_ok : kn9.ok := do_ok kn8_ok
theorem kn9_eq : dkDo kn8 7 [0, 0, 0, 2, 0, 0] = (kn9, [], 14, 128) := by kernel_rfl
theorem kn10_ok : kn10.ok := do_ok kn9_ok
theorem kn10_eq : dkDo kn9 4 [] = (kn10, [128], 12, 0) := by kernel_rfl
set_option maxRecDepth 100000 in
set_option maxHeartbeats 16000000 in
theorem walk_diskKnown (w : World) : Calls Try.prog 3 #[] w fun e w' => e = .returned (.bool true) ∧ Below w.heap.size w w' := by
  have HS := Lib.hid (SL.start w)
  have hn := new_any ⟨#[86, 79, 76, 49]⟩ (by decide) 2 2 HS.out
  have HN := Lib.hid (hn.mono fun e w' h => NewR.get h (by kernel_rfl))
  clear hn HS
  go_enter Try.func3, Try.ntmps3
  go_wp2_with fail
  refine HN.out.mono ?_
  rintro e w1 ⟨x, rfl, S1⟩
  have H1 := Lib.hid (show SL w (diskS x kn0 :: []) w1 from S1)
  clear S1 HN
  go_wp2_with fail
  refine name_world (P := fun W => Calls _ _ _ W _) ?_; intro wd hwd
  have h := SL.cast hwd (H1.out.lit #[.int .u8 0, .int .u8 0, .int .u8 0, .int .u8 1, .int .u8 0, .int .u8 0] 5 1 6 rfl (by decide))
  have G1 := Lib.hid (show SL w (rowS 5 1 (.slice (some ⟨_, 0, none⟩) 6 6) 6 (Lib.byteCells [0, 0, 0, 1, 0, 0]) :: diskS x kn0 :: []) wd from h)
  clear hwd h H1
  have hc := do_any 7 (some ⟨_, 0, none⟩) [0, 0, 0, 1, 0, 0] 6 (fun _ S => rowS_card (l := [0, 0, 0, 1, 0, 0]) S) kn0_ok G1.out.s1
  rw [kn1_eq] at hc
  have HC := Lib.hid (hc.mono fun e w' h => RetM.lit (n := 0) (a := 12) (b := 0) h rfl rfl rfl)
  clear hc
  refine HC.out.mono ?_
  rintro e v1 ⟨A1, c1, rfl, S⟩
  have Z1 := Lib.hid (show SL w (diskS x kn1 :: []) v1 from S.drop.s1.drop)
  clear S HC G1
  go_wp2_with fail
  refine name_world (P := fun W => Calls _ _ _ W _) ?_; intro wd hwd
  have h := SL.cast hwd (Z1.out.lit #[.int .u8 0, .int .u8 1, .int .u8 0, .int .u8 0, .int .u8 1, .int .u8 1, .int .u8 0, .int .u8 2, .int .u8 75, .int .u8 68, .int .u8 69] 5 1 11 rfl (by decide))
  have G2 := Lib.hid (show SL w (rowS 5 1 (.slice (some ⟨_, 0, none⟩) 11 11) 11 (Lib.byteCells [0, 1, 0, 0, 1, 1, 0, 2, 75, 68, 69]) :: diskS x kn1 :: []) wd from h)
  clear hwd h Z1
  have hc := do_any 29 (some ⟨_, 0, none⟩) [0, 1, 0, 0, 1, 1, 0, 2, 75, 68, 69] 11 (fun _ S => rowS_card (l := [0, 1, 0, 0, 1, 1, 0, 2, 75, 68, 69]) S) kn1_ok G2.out.s1
  rw [kn2_eq] at hc
  have HC := Lib.hid (hc.mono fun e w' h => RetM.lit (n := 0) (a := 12) (b := 0) h rfl rfl rfl)
  clear hc
  refine HC.out.mono ?_
  rintro e v2 ⟨A2, c2, rfl, S⟩
  have Z2 := Lib.hid (show SL w (diskS x kn2 :: []) v2 from S.drop.s1.drop)
  clear S HC G2
  go_wp2_with fail
  refine name_world (P := fun W => Calls _ _ _ W _) ?_; intro wd hwd
  have h := SL.cast hwd (Z2.out.lit #[.int .u8 153] 5 1 1 rfl (by decide))
  have G3 := Lib.hid (show SL w (rowS 5 1 (.slice (some ⟨_, 0, none⟩) 1 1) 1 (Lib.byteCells [153]) :: diskS x kn2 :: []) wd from h)
  clear hwd h Z2
  have hc := do_any 5 (some ⟨_, 0, none⟩) [153] 1 (fun _ S => rowS_card (l := [153]) S) kn2_ok G3.out.s1
  rw [kn3_eq] at hc
  have HC := Lib.hid (hc.mono fun e w' h => RetM.lit (n := 0) (a := 14) (b := 128) h rfl rfl rfl)
  clear hc
  refine HC.out.mono ?_
  rintro e v3 ⟨A3, c3, rfl, S⟩
  have K3 := Lib.hid S
  clear S HC G3
  go_upto_region 7 with fail
  refine name_world (P := Code.wp _ _ _ _) ?_
  intro z3 hz
  have h := SL.cast hz (K3.out.allocC #[.slice A3 0 c3, .int .i64 14, .int .i64 128] 28)
  have Z3 := Lib.hid (show SL w (diskS x kn3 :: cel v3.heap.size #[.slice A3 0 c3, .int .i64 14, .int .i64 128] 28 :: []) z3 from h.s1.drop.s1.s2.drop)
  clear h hz K3
  go_wp2_with fail
  refine name_world (P := fun W => Calls _ _ _ W _) ?_; intro wd hwd
  have h := SL.cast hwd (Z3.out.lit #[.int .u8 75] 5 1 1 rfl (by decide))
  have G4 := Lib.hid (show SL w (rowS 5 1 (.slice (some ⟨_, 0, none⟩) 1 1) 1 (Lib.byteCells [75]) :: diskS x kn3 :: cel v3.heap.size #[.slice A3 0 c3, .int .i64 14, .int .i64 128] 28 :: []) wd from h)
  clear hwd h Z3
  have hc := do_any 41 (some ⟨_, 0, none⟩) [75] 1 (fun _ S => rowS_card (l := [75]) S) kn3_ok G4.out.s1
  rw [kn4_eq] at hc
  have HC := Lib.hid (hc.mono fun e w' h => RetM.lit (n := 0) (a := 76) (b := 0) h rfl rfl rfl)
  clear hc
  refine HC.out.mono ?_
  rintro e v4 ⟨A4, c4, rfl, S⟩
  have K4 := Lib.hid S
  clear S HC G4
  go_upto_region 8 with fail
  refine name_world (P := Code.wp _ _ _ _) ?_
  intro z4 hz
  have h := SL.cast hz (K4.out.allocC #[.slice A4 0 c4, .int .i64 76, .int .i64 0] 28)
  have Z4 := Lib.hid (show SL w (diskS x kn4 :: cel v4.heap.size #[.slice A4 0 c4, .int .i64 76, .int .i64 0] 28 :: cel v3.heap.size #[.slice A3 0 c3, .int .i64 14, .int .i64 128] 28 :: []) z4 from h.s1.drop.s1.s2.drop)
  clear h hz K4
  go_wp2_with fail
  refine name_world (P := fun W => Calls _ _ _ W _) ?_; intro wd hwd
  have h := SL.cast hwd (Z4.out.lit #[.int .u8 153] 5 1 1 rfl (by decide))
  have G5 := Lib.hid (show SL w (rowS 5 1 (.slice (some ⟨_, 0, none⟩) 1 1) 1 (Lib.byteCells [153]) :: diskS x kn4 :: cel v4.heap.size #[.slice A4 0 c4, .int .i64 76, .int .i64 0] 28 :: cel v3.heap.size #[.slice A3 0 c3, .int .i64 14, .int .i64 128] 28 :: []) wd from h)
  clear hwd h Z4
  have hc := do_any 5 (some ⟨_, 0, none⟩) [153] 1 (fun _ S => rowS_card (l := [153]) S) kn4_ok G5.out.s1
  rw [kn5_eq] at hc
  have HC := Lib.hid (hc.mono fun e w' h => RetM.lit (n := 0) (a := 12) (b := 0) h rfl rfl rfl)
  clear hc
  refine HC.out.mono ?_
  rintro e v5 ⟨A5, c5, rfl, S⟩
  have K5 := Lib.hid S
  clear S HC G5
  go_upto_region 9 with fail
  refine name_world (P := Code.wp _ _ _ _) ?_
  intro z5 hz
  have h := SL.cast hz (K5.out.allocC #[.slice A5 0 c5, .int .i64 12, .int .i64 0] 28)
  have Z5 := Lib.hid (show SL w (diskS x kn5 :: cel v5.heap.size #[.slice A5 0 c5, .int .i64 12, .int .i64 0] 28 :: cel v4.heap.size #[.slice A4 0 c4, .int .i64 76, .int .i64 0] 28 :: cel v3.heap.size #[.slice A3 0 c3, .int .i64 14, .int .i64 128] 28 :: []) z5 from h.s1.drop.s1.s2.drop)
  clear h hz K5
  go_wp2_with fail
  have hc := undo_any 2 kn5_ok Z5.out
  rw [kn6_eq] at hc
  have HC := Lib.hid hc
  clear hc
  refine (show Calls _ _ _ _ (fun e w' => e = .returned (.bool true) ∧ SL w (diskS x kn6 :: cel v5.heap.size #[.slice A5 0 c5, .int .i64 12, .int .i64 0] 28 :: cel v4.heap.size #[.slice A4 0 c4, .int .i64 76, .int .i64 0] 28 :: cel v3.heap.size #[.slice A3 0 c3, .int .i64 14, .int .i64 128] 28 :: []) w') from HC.out).mono ?_
  rintro e v6 ⟨rfl, S⟩
  have Z6 := Lib.hid S
  clear S HC Z5
  go_wp2_with fail
  refine name_world (P := fun W => Calls _ _ _ W _) ?_; intro wd hwd
  have h := SL.cast hwd (Z6.out.lit #[.int .u8 0, .int .u8 1, .int .u8 0, .int .u8 0, .int .u8 1] 5 1 5 rfl (by decide))
  have G7 := Lib.hid (show SL w (rowS 5 1 (.slice (some ⟨_, 0, none⟩) 5 5) 5 (Lib.byteCells [0, 1, 0, 0, 1]) :: diskS x kn6 :: cel v5.heap.size #[.slice A5 0 c5, .int .i64 12, .int .i64 0] 28 :: cel v4.heap.size #[.slice A4 0 c4, .int .i64 76, .int .i64 0] 28 :: cel v3.heap.size #[.slice A3 0 c3, .int .i64 14, .int .i64 128] 28 :: []) wd from h)
  clear hwd h Z6
  have hc := do_any 49 (some ⟨_, 0, none⟩) [0, 1, 0, 0, 1] 5 (fun _ S => rowS_card (l := [0, 1, 0, 0, 1]) S) kn6_ok G7.out.s1
  rw [kn7_eq] at hc
  have HC := Lib.hid (hc.mono fun e w' h => RetM.lit (n := 0) (a := 76) (b := 0) h rfl rfl rfl)
  clear hc
  refine HC.out.mono ?_
  rintro e v7 ⟨A7, c7, rfl, S⟩
  have Z7 := Lib.hid (show SL w (diskS x kn7 :: cel v5.heap.size #[.slice A5 0 c5, .int .i64 12, .int .i64 0] 28 :: cel v4.heap.size #[.slice A4 0 c4, .int .i64 76, .int .i64 0] 28 :: cel v3.heap.size #[.slice A3 0 c3, .int .i64 14, .int .i64 128] 28 :: []) v7 from S.drop.s1.drop)
  clear S HC G7
  have G8 := Lib.hid Z7.out
  clear Z7
  go_wp2_with fail
  have hc := do_any 6 none [] 0 (fun _ _ => card_nil0) kn7_ok G8.out
  rw [kn8_eq] at hc
  have HC := Lib.hid (hc.mono fun e w' h => RetM.lit (n := 0) (a := 14) (b := 8) h rfl rfl rfl)
  clear hc
  refine HC.out.mono ?_
  rintro e v8 ⟨A8, c8, rfl, S⟩
  have K8 := Lib.hid S
  clear S HC G8
  go_upto_region 12 with fail
  refine name_world (P := Code.wp _ _ _ _) ?_
  intro z8 hz
  have h := SL.cast hz (K8.out.allocC #[.slice A8 0 c8, .int .i64 14, .int .i64 8] 28)
  have Z8 := Lib.hid (show SL w (diskS x kn8 :: cel v8.heap.size #[.slice A8 0 c8, .int .i64 14, .int .i64 8] 28 :: cel v5.heap.size #[.slice A5 0 c5, .int .i64 12, .int .i64 0] 28 :: cel v4.heap.size #[.slice A4 0 c4, .int .i64 76, .int .i64 0] 28 :: cel v3.heap.size #[.slice A3 0 c3, .int .i64 14, .int .i64 128] 28 :: []) z8 from h.s1.drop.s1)
  clear h hz K8
  go_wp2_with fail
  refine name_world (P := fun W => Calls _ _ _ W _) ?_; intro wd hwd
  have h := SL.cast hwd (Z8.out.lit #[.int .u8 0, .int .u8 0, .int .u8 0, .int .u8 2, .int .u8 0, .int .u8 0] 5 1 6 rfl (by decide))
  have G9 := Lib.hid (show SL w (rowS 5 1 (.slice (some ⟨_, 0, none⟩) 6 6) 6 (Lib.byteCells [0, 0, 0, 2, 0, 0]) :: diskS x kn8 :: cel v8.heap.size #[.slice A8 0 c8, .int .i64 14, .int .i64 8] 28 :: cel v5.heap.size #[.slice A5 0 c5, .int .i64 12, .int .i64 0] 28 :: cel v4.heap.size #[.slice A4 0 c4, .int .i64 76, .int .i64 0] 28 :: cel v3.heap.size #[.slice A3 0 c3, .int .i64 14, .int .i64 128] 28 :: []) wd from h)
  clear hwd h Z8
  have hc := do_any 7 (some ⟨_, 0, none⟩) [0, 0, 0, 2, 0, 0] 6 (fun _ S => rowS_card (l := [0, 0, 0, 2, 0, 0]) S) kn8_ok G9.out.s1
  rw [kn9_eq] at hc
  have HC := Lib.hid (hc.mono fun e w' h => RetM.lit (n := 0) (a := 14) (b := 128) h rfl rfl rfl)
  clear hc
  refine HC.out.mono ?_
  rintro e v9 ⟨A9, c9, rfl, S⟩
  have K9 := Lib.hid S
  clear S HC G9
  go_upto_region 13 with fail
  refine name_world (P := Code.wp _ _ _ _) ?_
  intro z9 hz
  have h := SL.cast hz (K9.out.allocC #[.slice A9 0 c9, .int .i64 14, .int .i64 128] 28)
  have Z9 := Lib.hid (show SL w (diskS x kn9 :: cel v9.heap.size #[.slice A9 0 c9, .int .i64 14, .int .i64 128] 28 :: cel v8.heap.size #[.slice A8 0 c8, .int .i64 14, .int .i64 8] 28 :: cel v5.heap.size #[.slice A5 0 c5, .int .i64 12, .int .i64 0] 28 :: cel v4.heap.size #[.slice A4 0 c4, .int .i64 76, .int .i64 0] 28 :: cel v3.heap.size #[.slice A3 0 c3, .int .i64 14, .int .i64 128] 28 :: []) z9 from h.s1.drop.s1.s2.drop)
  clear h hz K9
  have G10 := Lib.hid Z9.out
  clear Z9
  go_wp2_with fail
  have hc := do_any 4 none [] 0 (fun _ _ => card_nil0) kn9_ok G10.out
  rw [kn10_eq] at hc
  have HC := Lib.hid (hc.mono fun e w' h => RetM.lit (n := 1) (a := 12) (b := 0) h rfl rfl rfl)
  clear hc
  refine HC.out.mono ?_
  rintro e v10 ⟨A10, c10, rfl, S⟩
  have K10 := Lib.hid S
  clear S HC G10
  go_upto_region 14 with fail
  refine name_world (P := Code.wp _ _ _ _) ?_
  intro z10 hz
  have h := SL.cast hz (K10.out.allocC #[.slice A10 1 c10, .int .i64 12, .int .i64 0] 28)
  have Z10 := Lib.hid (show SL w (diskS x kn10 :: cel v10.heap.size #[.slice A10 1 c10, .int .i64 12, .int .i64 0] 28 :: rowS 5 1 (.slice A10 1 c10) 1 (Lib.byteCells [128]) :: cel v9.heap.size #[.slice A9 0 c9, .int .i64 14, .int .i64 128] 28 :: cel v8.heap.size #[.slice A8 0 c8, .int .i64 14, .int .i64 8] 28 :: cel v5.heap.size #[.slice A5 0 c5, .int .i64 12, .int .i64 0] 28 :: cel v4.heap.size #[.slice A4 0 c4, .int .i64 76, .int .i64 0] 28 :: cel v3.heap.size #[.slice A3 0 c3, .int .i64 14, .int .i64 128] 28 :: []) z10 from h.s2)
  clear h hz K10
  obtain ⟨L10, K10, y10⟩ := Z10.out.s1.look
  obtain ⟨L9, K9, y9⟩ := Z10.out.s3.look
  obtain ⟨L8, K8, y8⟩ := Z10.out.s4.look
  obtain ⟨L5, K5, y5⟩ := Z10.out.s5.look
  obtain ⟨L4, K4, y4⟩ := Z10.out.s6.look
  obtain ⟨L3, K3, y3⟩ := Z10.out.drop.s6.look
  go_wp2_with fail
  refine name_world (P := fun W => Calls _ _ _ W _) ?_; intro wd hwd
  have HL := Lib.hid (SL.cast hwd (Z10.out.lit #[.int .u8 128] 5 1 1 rfl (by decide)))
  clear hwd L3 L4 L5 L8 L9 L10 K3 K4 K5 K8 K9 K10 y3 y4 y5 y8 y9 y10
  have hs := sameb_any A10 (some ⟨z10.heap.size, 0, none⟩) [128] [128] c10 1 wd wd.heap.size HL.out.s3.at_ HL.out.at_ (by unfold maxLen; decide) (by unfold maxLen; decide)
  refine (show Calls _ _ _ _ (fun e w' => e = .returned (.bool true) ∧ Still _ w') from hs).mono ?_
  rintro e w9 ⟨rfl, b9⟩
  have HB := Lib.hid (HL.out.still b9).below
  clear b9 hs HL Z10
  go_wp2_with fail
  refine (works_any _).mono ?_
  rintro e w10 ⟨rfl, b10⟩
  have HB2 := Lib.hid (HB.out.trans (b10.mono HB.out.size))
  clear b10 HB
  go_wp2
  go_ret
  exact ⟨rfl, HB2.out⟩
end Go.Proofs.Ytmkndbledppniaa
