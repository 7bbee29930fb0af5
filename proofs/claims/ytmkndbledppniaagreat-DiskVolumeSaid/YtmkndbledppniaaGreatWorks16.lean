/- works of jobshoplaw16. -/
import Derived.Test.YtmkndbledppniaaGreatNew
import Derived.Test.YtmkndbledppniaaGreatKitA
namespace Go.Proofs.YtmkndbledppniaaGreat
open Go.RowKit
theorem card_nil0 {w : World} : CardAt w none [] 0 := ⟨At.nil_, Nat.le_refl _, by unfold maxLen; omega⟩
theorem RetM.lit {W w' : World} {F : List SA} {x : Nat} {r : DK} {l : List UInt8} {st sn n : Nat} {a b : Int} {e : Ending} (h : RetM W F x (r, l, st, sn) e w') (hn : l.length = n) (ha : (st : Int) = a) (hb : (sn : Int) = b) :
    ∃ A c, e = .returned (.agg #[.slice A n c, .int .i64 a, .int .i64 b]) ∧ SL W (rowS 5 1 (.slice A n c) n (Lib.byteCells l) :: diskS x r :: F) w' := by
  subst hn; subst ha; subst hb
  exact h
theorem NewR.get {W w' : World} {F : List SA} {s : ByteArray} {c h : Int} {e : Ending} (k : NewR W F s c h e w') (ok : newOk s c h = true) : ∃ x, e = .returned (.tuple #[.pointer (some ⟨x, 0, none⟩), .int .i64 0]) ∧ SL W (diskS x (freshDK s c.toNat h.toNat) :: F) w' := by
  unfold NewR at k
  rw [if_pos ok] at k
  exact k
def wk0 : DK := freshDK ⟨#[86, 79, 76, 49]⟩ 2 2

def wk1 : DK := (dkDo wk0 7 [0, 0, 0, 1, 0, 0]).1
def wk2 : DK := (dkDo wk1 29 [0, 1, 0, 0, 1, 1, 0, 2, 75, 68, 69]).1
def wk3 : DK := (dkDo wk2 49 [0, 1, 0, 0, 1]).1
def wk4 : DK := (dkDo wk3 14 []).1
theorem wk0_ok : wk0.ok := fresh_ok (by omega) (by omega)
theorem wk1_ok : wk1.ok := do_ok wk0_ok
theorem wk1_eq : dkDo wk0 7 [0, 0, 0, 1, 0, 0] = (wk1, [], 12, 0) := by kernel_rfl
theorem wk2_ok : wk2.ok := do_ok wk1_ok
theorem wk2_eq : dkDo wk1 29 [0, 1, 0, 0, 1, 1, 0, 2, 75, 68, 69] = (wk2, [], 12, 0) := by kernel_rfl
theorem wk3_ok : wk3.ok := do_ok wk2_ok
theorem wk3_eq : dkDo wk2 49 [0, 1, 0, 0, 1] = (wk3, [], 76, 0) := by kernel_rfl
theorem wk4_ok : wk4.ok := do_ok wk3_ok
theorem wk4_eq : dkDo wk3 14 [] = (wk4, [75, 68, 69], 12, 0) := by kernel_rfl
set_option maxRecDepth 100000 in
set_option maxHeartbeats 16000000 in
theorem works_any (w : World) : Calls Tryz.prog 7 #[] w fun e w' => e = .returned (.bool true) ∧ Below w.heap.size w w' := by
  have HS := Lib.hid (SL.start w)
  have hn := new_any ⟨#[86, 79, 76, 49]⟩ (by decide) 2 2 HS.out
  have HN := Lib.hid (hn.mono fun e w' h => NewR.get h (by kernel_rfl))
  clear hn HS
  go_enter Tryz.func7, Tryz.ntmps7
  go_wp2_with fail
  refine HN.out.mono ?_
  rintro e w1 ⟨x, rfl, S1⟩
  have H1 := Lib.hid (show SL w (diskS x wk0 :: []) w1 from S1)
  clear S1 HN
  go_wp2_with fail
  refine name_world (P := fun W => Calls _ _ _ W _) ?_; intro wd hwd
  have h := SL.cast hwd (H1.out.lit #[.int .u8 0, .int .u8 0, .int .u8 0, .int .u8 1, .int .u8 0, .int .u8 0] 5 1 6 rfl (by decide))
  have G1 := Lib.hid (show SL w (rowS 5 1 (.slice (some ⟨_, 0, none⟩) 6 6) 6 (Lib.byteCells [0, 0, 0, 1, 0, 0]) :: diskS x wk0 :: []) wd from h)
  clear hwd h H1
  have hc := do_any 7 (some ⟨_, 0, none⟩) [0, 0, 0, 1, 0, 0] 6 (fun _ S => rowS_card (l := [0, 0, 0, 1, 0, 0]) S) wk0_ok G1.out.s1
  rw [wk1_eq] at hc
  have HC := Lib.hid (hc.mono fun e w' h => RetM.lit (n := 0) (a := 12) (b := 0) h rfl rfl rfl)
  clear hc
  refine HC.out.mono ?_
  rintro e v1 ⟨A1, c1, rfl, S⟩
  have K1 := Lib.hid S
  clear S HC G1
  go_upto_region 5 with fail
  refine name_world (P := Code.wp _ _ _ _) ?_
  intro z1 hz
  have h := SL.cast hz (K1.out.allocC #[.slice A1 0 c1, .int .i64 12, .int .i64 0] 53)
  have Z1 := Lib.hid (show SL w (diskS x wk1 :: cel v1.heap.size #[.slice A1 0 c1, .int .i64 12, .int .i64 0] 53 :: []) z1 from h.s1.drop.s1.s2.drop)
  clear h hz K1
  go_wp2_with fail
  refine name_world (P := fun W => Calls _ _ _ W _) ?_; intro wd hwd
  have h := SL.cast hwd (Z1.out.lit #[.int .u8 0, .int .u8 1, .int .u8 0, .int .u8 0, .int .u8 1, .int .u8 1, .int .u8 0, .int .u8 2, .int .u8 75, .int .u8 68, .int .u8 69] 5 1 11 rfl (by decide))
  have G2 := Lib.hid (show SL w (rowS 5 1 (.slice (some ⟨_, 0, none⟩) 11 11) 11 (Lib.byteCells [0, 1, 0, 0, 1, 1, 0, 2, 75, 68, 69]) :: diskS x wk1 :: cel v1.heap.size #[.slice A1 0 c1, .int .i64 12, .int .i64 0] 53 :: []) wd from h)
  clear hwd h Z1
  have hc := do_any 29 (some ⟨_, 0, none⟩) [0, 1, 0, 0, 1, 1, 0, 2, 75, 68, 69] 11 (fun _ S => rowS_card (l := [0, 1, 0, 0, 1, 1, 0, 2, 75, 68, 69]) S) wk1_ok G2.out.s1
  rw [wk2_eq] at hc
  have HC := Lib.hid (hc.mono fun e w' h => RetM.lit (n := 0) (a := 12) (b := 0) h rfl rfl rfl)
  clear hc
  refine HC.out.mono ?_
  rintro e v2 ⟨A2, c2, rfl, S⟩
  have K2 := Lib.hid S
  clear S HC G2
  go_upto_region 6 with fail
  refine name_world (P := Code.wp _ _ _ _) ?_
  intro z2 hz
  have h := SL.cast hz (K2.out.allocC #[.slice A2 0 c2, .int .i64 12, .int .i64 0] 53)
  have Z2 := Lib.hid (show SL w (diskS x wk2 :: cel v2.heap.size #[.slice A2 0 c2, .int .i64 12, .int .i64 0] 53 :: cel v1.heap.size #[.slice A1 0 c1, .int .i64 12, .int .i64 0] 53 :: []) z2 from h.s1.drop.s1.s2.drop)
  clear h hz K2
  go_wp2_with fail
  refine name_world (P := fun W => Calls _ _ _ W _) ?_; intro wd hwd
  have h := SL.cast hwd (Z2.out.lit #[.int .u8 0, .int .u8 1, .int .u8 0, .int .u8 0, .int .u8 1] 5 1 5 rfl (by decide))
  have G3 := Lib.hid (show SL w (rowS 5 1 (.slice (some ⟨_, 0, none⟩) 5 5) 5 (Lib.byteCells [0, 1, 0, 0, 1]) :: diskS x wk2 :: cel v2.heap.size #[.slice A2 0 c2, .int .i64 12, .int .i64 0] 53 :: cel v1.heap.size #[.slice A1 0 c1, .int .i64 12, .int .i64 0] 53 :: []) wd from h)
  clear hwd h Z2
  have hc := do_any 49 (some ⟨_, 0, none⟩) [0, 1, 0, 0, 1] 5 (fun _ S => rowS_card (l := [0, 1, 0, 0, 1]) S) wk2_ok G3.out.s1
  rw [wk3_eq] at hc
  have HC := Lib.hid (hc.mono fun e w' h => RetM.lit (n := 0) (a := 76) (b := 0) h rfl rfl rfl)
  clear hc
  refine HC.out.mono ?_
  rintro e v3 ⟨A3, c3, rfl, S⟩
  have K3 := Lib.hid S
  clear S HC G3
  go_upto_region 7 with fail
  refine name_world (P := Code.wp _ _ _ _) ?_
  intro z3 hz
  have h := SL.cast hz (K3.out.allocC #[.slice A3 0 c3, .int .i64 76, .int .i64 0] 53)
  have Z3 := Lib.hid (show SL w (diskS x wk3 :: cel v3.heap.size #[.slice A3 0 c3, .int .i64 76, .int .i64 0] 53 :: cel v2.heap.size #[.slice A2 0 c2, .int .i64 12, .int .i64 0] 53 :: cel v1.heap.size #[.slice A1 0 c1, .int .i64 12, .int .i64 0] 53 :: []) z3 from h.s1.drop.s1.s2.drop)
  clear h hz K3
  have G4 := Lib.hid Z3.out
  clear Z3
  go_wp2_with fail
  have hc := do_any 14 none [] 0 (fun _ _ => card_nil0) wk3_ok G4.out
  rw [wk4_eq] at hc
  have HC := Lib.hid (hc.mono fun e w' h => RetM.lit (n := 3) (a := 12) (b := 0) h rfl rfl rfl)
  clear hc
  refine HC.out.mono ?_
  rintro e v4 ⟨A4, c4, rfl, S⟩
  have K4 := Lib.hid S
  clear S HC G4
  go_upto_region 8 with fail
  refine name_world (P := Code.wp _ _ _ _) ?_
  intro z4 hz
  have h := SL.cast hz (K4.out.allocC #[.slice A4 3 c4, .int .i64 12, .int .i64 0] 53)
  have Z4 := Lib.hid (show SL w (diskS x wk4 :: cel v4.heap.size #[.slice A4 3 c4, .int .i64 12, .int .i64 0] 53 :: rowS 5 1 (.slice A4 3 c4) 3 (Lib.byteCells [75, 68, 69]) :: cel v3.heap.size #[.slice A3 0 c3, .int .i64 76, .int .i64 0] 53 :: cel v2.heap.size #[.slice A2 0 c2, .int .i64 12, .int .i64 0] 53 :: cel v1.heap.size #[.slice A1 0 c1, .int .i64 12, .int .i64 0] 53 :: []) z4 from h.s2)
  clear h hz K4
  obtain ⟨L4, K4, y4⟩ := Z4.out.s1.look
  obtain ⟨L3, K3, y3⟩ := Z4.out.s3.look
  obtain ⟨L2, K2, y2⟩ := Z4.out.s4.look
  obtain ⟨L1, K1, y1⟩ := Z4.out.s5.look
  go_wp2_with fail
  refine name_world (P := fun W => Calls _ _ _ W _) ?_; intro wd hwd
  have HL := Lib.hid (SL.cast hwd (Z4.out.lit #[.int .u8 75, .int .u8 68, .int .u8 69] 5 1 3 rfl (by decide)))
  clear hwd L1 L2 L3 L4 K1 K2 K3 K4 y1 y2 y3 y4
  have hs := sameb_any A4 (some ⟨z4.heap.size, 0, none⟩) [75, 68, 69] [75, 68, 69] c4 3 wd wd.heap.size HL.out.s3.at_ HL.out.at_ (by unfold maxLen; decide) (by unfold maxLen; decide)
  refine (show Calls _ _ _ _ (fun e w' => e = .returned (.bool true) ∧ Still _ w') from hs).mono ?_
  rintro e w9 ⟨rfl, b9⟩
  have HB := Lib.hid (HL.out.still b9).below
  clear b9 hs
  go_wp2
  go_ret
  exact ⟨rfl, HB.out⟩
end Go.Proofs.YtmkndbledppniaaGreat
